/- A part of the proof: contracts of functions of the program, shown by walking through their code in an abstract machine. Condition: none. -/
import Derived.Test.YtipgikhblcfpjaaAbsGr1
import Derived.Scope
set_option linter.unusedVariables false
set_option linter.unusedSimpArgs false
/- THE ABSTRACT MACHINE, part I: maps, builtins, and every operation together. -/
namespace Go.Abs
open Go

theorem makeMap_ok {P : Program} {B id : Nat} {φ : BMap} {σ : AHeap} {w : World} {t k : TypeId} (hr : RH P φ σ w B) (hid : φ id = none) (hlt : id < σ.next) :
    ∃ u' w' φ', (Instr.makeMap t none).run P w = .ok u' w' ∧ RV φ' (.map (some id)) u' ∧ RH P φ' (σ.set id (.map k fun _ => none)) w' B ∧ OStep id φ σ w φ' (σ.set id (.map k fun _ => none)) w' := by
  have hnew : (w.alloc (.map #[] 0)).heap[w.heap.size]? = some (.map #[] 0) := heap_alloc_new w _
  obtain ⟨a, b⟩ := hr.alloc (w' := w.alloc (.map #[] 0)) (x := .map k fun _ => none) (obj := .map #[] 0) (p := ⟨w.heap.size, 0, 0, 0⟩) hid hlt rfl rfl rfl rfl rfl rfl
    ⟨hr.base, #[], 0, hnew, fun e he => by simp at he, fun i j x y h => by simp at h, fun e he => by simp at he, fun key v h => by cases h⟩
  exact ⟨.map (some w.heap.size), _, _, rfl, .map (p := ⟨w.heap.size, 0, 0, 0⟩) (lay_same _ _ _), a, b⟩

theorem run_getObj_map {P : Program} {w : World} {g : Nat} {es : Array MapEntry} {c : Nat} (h : w.heap[g]? = some (.map es c)) : (getObj g).run P w = .ok (.map es c) w := by
  simp [getObj, Sem.run, h]

theorem alookup_ok {P : Program} {B : Nat} {φ : BMap} {σ : AHeap} {w : World} {t : TypeId} {m m' k k' v : Value} {ok : Bool} (hr : RH P φ σ w B) (h : alookup P σ t m k ok = some v) (hm : RV φ m m') (hk : RV φ k k') :
    ∃ v', (Instr.lookup t m' k' ok).run P w = .ok v' w ∧ RV φ v v' := by
  unfold alookup at h
  split at h
  case h_2 => cases h
  rename_i kt e _ _ _ hT
  split at h
  case h_2 => cases h
  rename_i ek s bytes z b hE
  split at h
  case h_2 => cases h
  rename_i kt' f hb
  split at h
  case isFalse => cases h
  rename_i hc
  obtain ⟨rfl, hko, hz, hpk, hkey⟩ := hc
  cases plainKey_eq hk hpk
  obtain ⟨p, hφ, rfl⟩ := hm.map_inv
  obtain ⟨q, hq, hok⟩ := hr.dom b _ hb
  rw [hφ] at hq; cases hq
  obtain ⟨_, es, c, hes, h1, h2, h3, h4⟩ := hok
  obtain ⟨l, hl⟩ := Option.isSome_iff_exists.1 hkey
  have hck := hko.law.check w es.isEmpty hl
  have hfind := hko.law.find w hl es.toList (fun e he => Option.isSome_iff_exists.1 (h1 e he))
  have fin : ∀ (u : Value) (b : Bool), RV φ u u ∨ True → True := fun _ _ _ => trivial
  rcases hfind with ⟨hf, hno⟩ | ⟨j, e0, hf, hj, hek⟩
  · have hfk : f k = none := by
      cases hfk : f k with
      | none => rfl
      | some u => obtain ⟨e1, he1, hek⟩ := h4 k u hfk; exact absurd hek (hno e1 he1)
    rw [hfk] at h
    simp only [Option.some.injEq] at h
    refine ⟨if ok then .tuple #[z, .bool false] else z, ?_, ?_⟩
    · simp [Instr.lookup, run_underlying (map_of hT), run_getObj_map hes, hck, hf, zero_of hE rfl]
    · subst h
      cases ok
      · exact RV.closed hz
      · exact RV.tuple_of (xs := [z, .bool false]) (xs' := [z, .bool false]) (.cons (RV.closed hz) (.cons (.bool _) (.nil φ)))
  · have hmem : e0 ∈ es.toList := List.mem_of_getElem? hj
    obtain ⟨u, hu, hrv⟩ := h3 e0 hmem
    rw [hek] at hu
    rw [hu] at h
    simp only [Option.some.injEq] at h
    refine ⟨if ok then .tuple #[e0.val, .bool true] else e0.val, ?_, ?_⟩
    · simp [Instr.lookup, run_underlying (map_of hT), run_getObj_map hes, hck, hf]
    · subst h
      cases ok
      · exact hrv
      · exact RV.tuple_of (xs := [u, .bool true]) (xs' := [e0.val, .bool true]) (.cons hrv (.cons (.bool _) (.nil φ)))

open Classical in
theorem amapUpdate_ok {P : Program} {B id : Nat} {φ : BMap} {σ σ' : AHeap} {w : World} {t : TypeId} {m m' k k' v v' : Value} (hr : RH P φ σ w B) (h : amapUpdate P σ t m k v = some σ') (hm : RV φ m m') (hk : RV φ k k') (hv : RV φ v v') :
    ∃ w', (Instr.mapUpdate t m' k' v').run P w = .ok () w' ∧ RH P φ σ' w' B ∧ OStep id φ σ w φ σ' w' := by
  unfold amapUpdate at h
  split at h
  case h_2 => cases h
  rename_i kt e _ _ _ b hT
  split at h
  case h_2 => cases h
  rename_i kt' f hb
  split at h
  case isFalse => cases h
  rename_i hc
  obtain ⟨rfl, hko, hpk, hkey⟩ := hc
  cases h
  cases plainKey_eq hk hpk
  obtain ⟨p, hφ, rfl⟩ := hm.map_inv
  obtain ⟨q, hq, hok⟩ := hr.dom b _ hb
  rw [hφ] at hq; cases hq
  obtain ⟨hB, es, c, hes, h1, h2, h3, h4⟩ := hok
  obtain ⟨l, hl⟩ := Option.isSome_iff_exists.1 hkey
  have hck := hko.law.check w false hl
  have hfind := hko.law.find w hl es.toList (fun e he => Option.isSome_iff_exists.1 (h1 e he))
  have hgl : p.g < w.heap.size := (Array.getElem?_eq_some_iff.1 hes).1
  -- the world behind the store
  have fin : ∀ (es' : Array MapEntry) (c' : Nat), (∀ e ∈ es'.toList, (keyOf P kt' e.key).isSome = true) → (∀ (i j : Nat) (x y : MapEntry), es'[i]? = some x → es'[j]? = some y → x.key = y.key → i = j) →
      (∀ e ∈ es'.toList, ∃ u, (if e.key = k then some v else f e.key) = some u ∧ RV φ u e.val) → (∀ key u, (if key = k then some v else f key) = some u → ∃ e ∈ es'.toList, e.key = key) →
      RH P φ (σ.set b (.map kt' fun x => if x = k then some v else f x)) { w with heap := w.heap.setIfInBounds p.g (.map es' c') } B ∧
      OStep id φ σ w φ (σ.set b (.map kt' fun x => if x = k then some v else f x)) { w with heap := w.heap.setIfInBounds p.g (.map es' c') } := by
    intro es' c' a1 a2 a3 a4
    refine hr.write (p := p) hb rfl hφ rfl (fun g hg => ?_) (by simp) rfl rfl rfl ⟨hB, es', c', by simp [hgl], a1, a2, a3, a4⟩
    simp only [Array.getElem?_setIfInBounds]; rw [if_neg (by omega)]
  have hset : ∀ (es' : Array MapEntry) (c' : Nat), (setObj p.g (.map es' c')).run P w = .ok () { w with heap := w.heap.setIfInBounds p.g (.map es' c') } := fun es' c' => by
    simp [setObj, Sem.run, hes]
  rcases hfind with ⟨hf, hno⟩ | ⟨j, e0, hf, hj, hek⟩
  · obtain ⟨a, b'⟩ := fin (es.push ⟨k, v', c⟩) (c + 1)
      (fun e he => by
        simp only [Array.toList_push, List.mem_append, List.mem_singleton] at he
        rcases he with he | rfl
        · exact h1 e he
        · exact hkey)
      (fun i j x y hx hy hxy => by
        rw [Array.getElem?_push] at hx hy
        split at hx <;> split at hy
        · omega
        · cases hx; exact absurd hxy.symm (hno y (List.mem_of_getElem? (by simpa using hy)))
        · cases hy; exact absurd hxy (hno x (List.mem_of_getElem? (by simpa using hx)))
        · exact h2 i j x y hx hy hxy)
      (fun e he => by
        simp only [Array.toList_push, List.mem_append, List.mem_singleton] at he
        rcases he with he | rfl
        · rw [if_neg (hno e he)]; exact h3 e he
        · exact ⟨v, if_pos rfl, hv⟩)
      (fun key u hu => by
        split at hu
        · rename_i e; exact ⟨⟨k, v', c⟩, by simp, e.symm⟩
        · obtain ⟨e, he, hk'⟩ := h4 key u hu; exact ⟨e, by simp only [Array.toList_push, List.mem_append]; exact .inl he, hk'⟩)
    exact ⟨_, by simp [Instr.mapUpdate, run_underlying (map_of hT), run_getObj_map hes, hck, hf, hset], a, b'⟩
  · have hj' : es[j]? = some e0 := by simpa using hj
    have hst := hko.law.stays w hl
    obtain ⟨a, b'⟩ := fin (es.modify j fun e => { e with key := k, val := v' }) c
      (fun e he => by
        obtain ⟨i, hi⟩ := List.mem_iff_getElem?.1 he
        have hi' : (es.modify j fun e => { e with key := k, val := v' })[i]? = some e := by rw [← Array.getElem?_toList]; exact hi
        rw [Array.getElem?_modify] at hi'
        split at hi'
        · rename_i hji; subst hji; rw [hj'] at hi'; cases hi'; exact hkey
        · exact h1 e (List.mem_of_getElem? (by simpa using hi')))
      (fun i i' x y hx hy hxy => by
        rw [Array.getElem?_modify] at hx hy
        split at hx <;> split at hy
        · omega
        · rename_i e1 e2; subst e1; rw [hj'] at hx; cases hx; exact h2 _ _ e0 y hj' hy (by rw [hek]; exact hxy)
        · rename_i e1 e2; subst e2; rw [hj'] at hy; cases hy; exact h2 _ _ x e0 hx hj' (by rw [hek]; exact hxy)
        · exact h2 i i' x y hx hy hxy)
      (fun e he => by
        obtain ⟨i, hi⟩ := List.mem_iff_getElem?.1 he
        have hi' : (es.modify j fun e => { e with key := k, val := v' })[i]? = some e := by rw [← Array.getElem?_toList]; exact hi
        rw [Array.getElem?_modify] at hi'
        split at hi'
        · rename_i hji; subst hji; rw [hj'] at hi'; cases hi'; exact ⟨v, if_pos rfl, hv⟩
        · rename_i hji
          have hne : e.key ≠ k := fun hh => hji (h2 j i e0 e hj' hi' (by rw [hek, hh]))
          rw [if_neg hne]; exact h3 e (List.mem_of_getElem? (by simpa using hi')))
      (fun key u hu => by
        split at hu
        · rename_i e
          refine ⟨{ e0 with key := k, val := v' }, List.mem_of_getElem? (i := j) ?_, e.symm⟩
          have : (es.modify j fun e => { e with key := k, val := v' })[j]? = some { e0 with key := k, val := v' } := by rw [Array.getElem?_modify, if_pos rfl, hj']; rfl
          rw [Array.getElem?_toList]; exact this
        · rename_i hne
          obtain ⟨e, he, hk'⟩ := h4 key u hu
          obtain ⟨i, hi⟩ := List.mem_iff_getElem?.1 he
          have hi' : es[i]? = some e := by simpa using hi
          have hji : j ≠ i := fun hh => by subst hh; rw [hj'] at hi'; cases hi'; exact hne (by rw [← hk', hek])
          refine ⟨e, List.mem_of_getElem? (i := i) ?_, hk'⟩
          have : (es.modify j fun e => { e with key := k, val := v' })[i]? = some e := by rw [Array.getElem?_modify, if_neg hji, hi']
          rw [Array.getElem?_toList]; exact this)
    exact ⟨_, by simp [Instr.mapUpdate, run_underlying (map_of hT), run_getObj_map hes, hck, hf, hj', hek, hst, hset], a, b'⟩

/-! ### Builtins -/
theorem afold_min {P : Program} {w : World} {φ : BMap} : ∀ {ys ys' : List Value} {x x' v : Value}, afold amin2 x ys = some v → RV φ x x' → RVs φ ys ys' → ∃ v', (ys'.foldlM Builtin.min2 x').run P w = .ok v' w ∧ RV φ v v'
  | [], ys', x, x', v, h, hx, hy => by
    have : ys' = [] := List.length_eq_zero_iff.1 hy.1.symm
    subst this
    simp only [afold, Option.some.injEq] at h; subst h
    exact ⟨x', rfl, hx⟩
  | y :: ys, [], x, x', v, h, hx, hy => absurd hy.1 (by simp)
  | y :: ys, y' :: ys', x, x', v, h, hx, hy => by
    simp only [afold] at h
    split at h
    · rename_i z hz
      have hy0 : RV φ y y' := hy.2 0 y y' rfl rfl
      unfold amin2 at hz
      split at hz
      · cases hz; cases hx.int_inv; cases hy0.int_inv
        obtain ⟨v', a, b⟩ := afold_min (P := P) (w := w) (ys' := ys') h (.int _ _) ⟨by simpa using hy.1, fun i a b ha hb => hy.2 (i + 1) a b (by simpa using ha) (by simpa using hb)⟩
        exact ⟨v', by simpa [Builtin.min2] using a, b⟩
      · cases hz
    · cases h

theorem afold_max {P : Program} {w : World} {φ : BMap} : ∀ {ys ys' : List Value} {x x' v : Value}, afold amax2 x ys = some v → RV φ x x' → RVs φ ys ys' → ∃ v', (ys'.foldlM Builtin.max2 x').run P w = .ok v' w ∧ RV φ v v'
  | [], ys', x, x', v, h, hx, hy => by
    have : ys' = [] := List.length_eq_zero_iff.1 hy.1.symm
    subst this
    simp only [afold, Option.some.injEq] at h; subst h
    exact ⟨x', rfl, hx⟩
  | y :: ys, [], x, x', v, h, hx, hy => absurd hy.1 (by simp)
  | y :: ys, y' :: ys', x, x', v, h, hx, hy => by
    simp only [afold] at h
    split at h
    · rename_i z hz
      have hy0 : RV φ y y' := hy.2 0 y y' rfl rfl
      unfold amax2 at hz
      split at hz
      · cases hz; cases hx.int_inv; cases hy0.int_inv
        obtain ⟨v', a, b⟩ := afold_max (P := P) (w := w) (ys' := ys') h (.int _ _) ⟨by simpa using hy.1, fun i a b ha hb => hy.2 (i + 1) a b (by simpa using ha) (by simpa using hb)⟩
        exact ⟨v', by simpa [Builtin.max2] using a, b⟩
      · cases hz
    · cases h

theorem alen_ok {P : Program} {φ : BMap} {w : World} {t rt : TypeId} {ts : Array TypeId} {x x' v : Value} (ht : ts[0]? = some t) (h : alen P t x = some v) (hx : RV φ x x') : (Builtin.len_ ts rt #[x']).run P w = .ok v w ∧ RV φ v v := by
  unfold alen at h
  split at h
  · rename_i a n c
    split at h
    · rename_i e hk
      cases h
      have : ∃ a' c', x' = .slice a' n c' := by cases hx <;> exact ⟨_, _, rfl⟩
      obtain ⟨a', c', rfl⟩ := this
      exact ⟨by simp [Builtin.len_, ht, run_underlying (tk_slice hk), goInt], .int _ _⟩
    · cases h
  · split at h
    · rename_i hk
      cases h; cases hx.string_inv
      exact ⟨by simp [Builtin.len_, ht, run_underlying (tk_string hk), goInt], .int _ _⟩
    · cases h
  · cases h
  · split at h
    · rename_i n e hk
      cases h
      obtain ⟨cs', rfl, _⟩ := hx.agg_inv
      exact ⟨by simp [Builtin.len_, ht, run_underlying (tk_array hk), goInt], .int _ _⟩
    · cases h
  · cases h

theorem acap_ok {P : Program} {φ : BMap} {w : World} {t rt : TypeId} {ts : Array TypeId} {x x' v : Value} (ht : ts[0]? = some t) (h : acap P t x = some v) (hx : RV φ x x') : (Builtin.cap_ ts rt #[x']).run P w = .ok v w ∧ RV φ v v := by
  unfold acap at h
  split at h
  · split at h
    · rename_i e hk
      cases h; cases hx.nil_inv
      exact ⟨by simp [Builtin.cap_, ht, run_underlying (tk_slice hk), goInt], .int _ _⟩
    · cases h
  · cases h

theorem abuiltin_ok {P : Program} {B id : Nat} {φ : BMap} {σ σ' : AHeap} {w : World} {b : Builtin} {ts : Array TypeId} {rt : TypeId} {cst : Array Bool} {vs vs' : List Value} {u : Value} (hr : RH P φ σ w B) (hid : φ id = none) (hlt : id < σ.next)
    (h : abuiltin P σ id b ts vs = some (u, σ')) (hv : RVs φ vs vs') :
    OpOk P B id φ σ w ((builtin b ts rt cst vs'.toArray).run P w) u σ' := by
  have one : ∀ {x : Value}, vs = [x] → ∃ x', vs' = [x'] ∧ RV φ x x' := fun {x} e => by
    subst e
    have hl := hv.1
    match vs', hl with
    | [x'], _ => exact ⟨x', rfl, hv.2 0 _ _ rfl rfl⟩
  have two : ∀ {x y : Value}, vs = [x, y] → ∃ x' y', vs' = [x', y'] ∧ RV φ x x' ∧ RV φ y y' := fun {x y} e => by
    subst e
    have hl := hv.1
    match vs', hl with
    | [x', y'], _ => exact ⟨x', y', rfl, hv.2 0 _ _ rfl rfl, hv.2 1 _ _ rfl rfl⟩
  have wrap : ∀ {s : Sem Value} {v' : Value} {w' : World}, s.run P w = .ok v' w' → (do Pure.pure (Next.value (← s)) : Sem Next).run P w = .ok (.value v') w' := fun {s v' w'} e => by simp [e]
  unfold abuiltin at h
  split at h
  · -- len
    rename_i x
    obtain ⟨x', rfl, hx⟩ := one rfl
    split at h
    · rename_i t ht
      rw [Option.map_eq_some_iff] at h
      obtain ⟨v, hv1, heq⟩ := h
      cases heq
      obtain ⟨a, b⟩ := alen_ok (P := P) (w := w) (rt := rt) ht hv1 hx
      exact .pure hr (by simp only [builtin]; exact wrap a) b
    · cases h
  · -- cap
    rename_i x
    obtain ⟨x', rfl, hx⟩ := one rfl
    split at h
    · rename_i t ht
      rw [Option.map_eq_some_iff] at h
      obtain ⟨v, hv1, heq⟩ := h
      cases heq
      obtain ⟨a, b⟩ := acap_ok (P := P) (w := w) (rt := rt) ht hv1 hx
      exact .pure hr (by simp only [builtin]; exact wrap a) b
    · cases h
  · -- append
    rename_i v x
    obtain ⟨v', x', rfl, hv1, hx⟩ := two rfl
    split at h
    · rename_i t u' ht hu
      obtain ⟨r, w', φ', a, b, c, d⟩ := aappend_ok (rt := rt) hr hid hlt h hv1 hx
      have hts : Builtin.append_ ts rt #[v', x'] = Builtin.append_ #[t, u'] rt #[v', x'] := by simp [Builtin.append_, ht, hu]
      exact ⟨r, w', φ', .inl (by simp only [builtin]; exact wrap (by rw [show ([v', x'] : List Value).toArray = #[v', x'] from rfl, hts]; exact a)), b, c, d⟩
    · cases h
  · -- copy
    rename_i d x
    obtain ⟨d', x', rfl, hd, hx⟩ := two rfl
    split at h
    · rename_i t u' ht hu
      obtain ⟨r, w', a, b, c, e⟩ := acopy_ok (id := id) (rt := rt) hr h hd hx
      have hts : Builtin.copy_ ts rt #[d', x'] = Builtin.copy_ #[t, u'] rt #[d', x'] := by simp [Builtin.copy_, ht]
      exact ⟨r, w', φ, .inl (by simp only [builtin]; exact wrap (by rw [show ([d', x'] : List Value).toArray = #[d', x'] from rfl, hts]; exact a)), b, c, e⟩
    · cases h
  · -- clear
    rename_i x
    obtain ⟨x', rfl, hx⟩ := one rfl
    split at h
    · rename_i t ht
      split at h
      case isFalse => cases h
      rename_i htk
      rw [Option.map_eq_some_iff] at h
      obtain ⟨s, hs, heq⟩ := h
      cases heq
      have hsome : (P.underlying t).isSome = true := by
        unfold tk at htk
        split at htk
        · rename_i T hT; obtain ⟨d, hd, _⟩ := akind_of hT; rw [hd]; rfl
        · cases htk
      obtain ⟨w', a, b, c⟩ := aclear_ok (id := id) (rt := rt) hr ht hs hx hsome
      exact ⟨.tuple #[], w', φ, .inl (by simp only [builtin]; exact wrap a), RV.tuple_of (xs := []) (xs' := []) (.nil φ), b, c⟩
    · cases h
  · -- min
    rename_i x r
    rw [Option.map_eq_some_iff] at h
    obtain ⟨v, hv1, heq⟩ := h
    cases heq
    cases vs' with
    | nil => exact absurd hv.1 (by simp)
    | cons x' r' =>
      obtain ⟨v', a, b⟩ := afold_min (P := P) (w := w) (ys' := r') hv1 (hv.2 0 _ _ rfl rfl) ⟨by simpa using hv.1, fun i a b ha hb => hv.2 (i + 1) a b (by simpa using ha) (by simpa using hb)⟩
      exact .pure hr (by simp only [builtin]; exact wrap (by simpa [Builtin.min_] using a)) b
  · -- max
    rename_i x r
    rw [Option.map_eq_some_iff] at h
    obtain ⟨v, hv1, heq⟩ := h
    cases heq
    cases vs' with
    | nil => exact absurd hv.1 (by simp)
    | cons x' r' =>
      obtain ⟨v', a, b⟩ := afold_max (P := P) (w := w) (ys' := r') hv1 (hv.2 0 _ _ rfl rfl) ⟨by simpa using hv.1, fun i a b ha hb => hv.2 (i + 1) a b (by simpa using ha) (by simpa using hb)⟩
      exact .pure hr (by simp only [builtin]; exact wrap (by simpa [Builtin.max_] using a)) b
  · cases h

theorem aextract_ok {P : Program} {φ : BMap} {w : World} {x x' v : Value} {i : Nat} (h : aextract x i = some v) (hx : RV φ x x') : ∃ v', (Instr.extract x' i).run P w = .ok v' w ∧ RV φ v v' := by
  unfold aextract at h
  split at h
  · obtain ⟨xs', rfl, hs⟩ := hx.tuple_inv
    obtain ⟨v', a, b⟩ := hs.get (i := i) (v := v) (by simpa using h)
    have a' : xs'[i]? = some v' := by simpa using a
    exact ⟨v', by simp [Instr.extract, a'], b⟩
  · cases h

end Go.Abs

/- THE ABSTRACT MACHINE, part J: every operation, and the machine's steps. -/
namespace Go.Abs
open Go

theorem toArray_toList_map (xs : Array Operand) (f : Operand → Value) : xs.map f = (xs.toList.map f).toArray := by apply Array.ext'; simp

theorem aexec_ok {P : Program} {B id N : Nat} {φ : BMap} {σ σ' : AHeap} {w : World} {fr : Fr} {a : Act} {o : Oper} {v : Value} (hr : RH P φ σ w B) (hf : RF φ N fr a.tmps) (hid : φ id = none) (hlt : id < σ.next)
    (h : aexec P σ id fr o.op = some (v, σ')) : OpOk P B id φ σ w ((execOp a.eval o).run P w) v σ' := by
  have wrap : ∀ {s : Sem Value} {v' : Value} {w' : World}, s.run P w = .ok v' w' → (do Pure.pure (Next.value (← s)) : Sem Next).run P w = .ok (.value v') w' := fun {s v' w'} e => by simp [e]
  have wrapU : ∀ {s : Sem Unit} {w' : World}, s.run P w = .ok () w' → (do s; Pure.pure Next.skip : Sem Next).run P w = .ok .skip w' := fun {s w'} e => by simp [e]
  have pureV : ∀ {s : Sem Value} {v v' : Value}, s.run P w = .ok v' w → RV φ v v' → OpOk P B id φ σ w ((do Pure.pure (Next.value (← s)) : Sem Next).run P w) v σ := fun e hv => .pure hr (wrap e) hv
  unfold aexec at h
  split at h
  · -- move
    rename_i x ho
    rw [Option.map_eq_some_iff] at h; obtain ⟨u, hu, heq⟩ := h; cases heq
    exact .pure hr (by simp [execOp, ho]) (aeval_rv hf hu)
  · -- assign
    rename_i x ho
    rw [Option.map_eq_some_iff] at h; obtain ⟨u, hu, heq⟩ := h; cases heq
    exact .pure hr (by simp [execOp, ho]) (aeval_rv hf hu)
  · -- pick
    rename_i c x y ho
    split at h
    · rename_i t hc
      rw [Option.map_eq_some_iff] at h; obtain ⟨u, hu, heq⟩ := h; cases heq
      have hcv := (aeval_rv hf hc).bool_inv
      cases t
      · exact .pure hr (by simp [execOp, ho, hcv, asBool]; rfl) (aeval_rv hf (by simpa using hu))
      · exact .pure hr (by simp [execOp, ho, hcv, asBool]; rfl) (aeval_rv hf (by simpa using hu))
    · cases h
  · -- alloc
    rename_i e ho
    split at h
    · rename_i k s by' z hE
      split at h
      case isFalse => cases h
      rename_i hz
      rw [Option.map_eq_some_iff] at h; obtain ⟨s', hs, heq⟩ := h; cases heq
      have hzt : isTuple z = false := by cases z <;> first | rfl | (simp [closedV, closedCell] at hz)
      refine OpOk.box hr hid hlt (RV.closed hz) hzt hs ?_
      have : (Instr.alloc e true (.tuple #[])).run P w = .ok (.pointer (some ⟨w.heap.size, 0, none⟩)) (w.alloc (.cells z.cells e)) := by
        simp only [Instr.alloc, Sem.run_bind, zero_of hE rfl, Result.andThen_ok, newVar, newRow, run_newObj, Sem.run_pure]; rfl
      simp only [execOp, ho]; exact wrap this
    · cases h
  · -- box
    rename_i e x ho
    split at h
    · rename_i u hu
      split at h
      · cases h
      · rename_i ht
        rw [Option.map_eq_some_iff] at h; obtain ⟨s', hs, heq⟩ := h; cases heq
        refine OpOk.box hr hid hlt (aeval_rv hf hu) (by simpa using ht) hs ?_
        have : (Instr.box e (a.eval x)).run P w = .ok (.pointer (some ⟨w.heap.size, 0, none⟩)) (w.alloc (.cells (a.eval x).cells e)) := by
          simp only [Instr.box, Sem.run_bind, Result.andThen_ok, newVar, newRow, run_newObj, Sem.run_pure]; rfl
        simp only [execOp, ho]; exact wrap this
    · cases h
  · -- build
    rename_i t parts ho
    split at h
    · rename_i ps hps
      rw [Option.map_eq_some_iff] at h; obtain ⟨u, hu, heq⟩ := h; cases heq
      obtain ⟨v', c, d⟩ := abuild_ok (P := P) (w := w) hu (aparts_rv hf hps)
      simp only [execOp, ho]
      have e : (parts.map fun x => (x.1, a.eval x.2)) = (parts.toList.map fun (i, x) => (i, a.eval x)).toArray := by apply Array.ext'; simp
      rw [e]; exact pureV c d
    · cases h
  · -- buildSlice
    rename_i t len parts ho
    split at h
    · rename_i ps hps
      obtain ⟨u', w', φ', c, d, e, f⟩ := abuildSlice_ok hr hid hlt h (aparts_rv hf hps)
      have e' : (parts.map fun x => (x.1, a.eval x.2)) = (parts.toList.map fun (i, x) => (i, a.eval x)).toArray := by apply Array.ext'; simp
      exact ⟨u', w', φ', .inl (by simp only [execOp, ho]; rw [e']; exact wrap c), d, e, f⟩
    · cases h
  · -- load
    rename_i t x ho
    split at h
    · rename_i p hp
      rw [Option.map_eq_some_iff] at h; obtain ⟨u, hu, heq⟩ := h; cases heq
      obtain ⟨v', c, d⟩ := aload_rv hr hu (aeval_rv hf hp)
      simp only [execOp, ho]; exact pureV c d
    · cases h
  · -- store
    rename_i t x y ho
    split at h
    · rename_i p u hp hu
      rw [Option.map_eq_some_iff] at h; obtain ⟨s', hs, heq⟩ := h; cases heq
      obtain ⟨w', c, d, e⟩ := astore_ok (id := id) hr hs (aeval_rv hf hp) (aeval_rv hf hu)
      exact ⟨undef, w', φ, .inr ⟨by simp only [execOp, ho]; exact wrapU c, rfl⟩, RV.tuple_of (xs := []) (xs' := []) (.nil φ), d, e⟩
    · cases h
  · -- nilCheck
    rename_i x ho
    split at h
    · rename_i p hp
      cases h
      have hrv := aeval_rv hf hp
      have : ∃ q, a.eval x = .pointer (some q) := by
        obtain ⟨b, off, spot⟩ := p
        generalize a.eval x = y at hrv
        cases hrv; exact ⟨_, rfl⟩
      obtain ⟨q, hq⟩ := this
      exact .pure hr (by simp [execOp, ho, hq]; rfl) (by rw [← hq]; exact hrv)
    · rename_i f xs ys hp
      cases h
      have hrv := aeval_rv hf hp
      obtain ⟨xs', ys', hq, _, _⟩ := hrv.func_inv
      exact .pure hr (by simp [execOp, ho, hq]; rfl) (by rw [← hq]; exact hrv)
    · cases h
  · -- binOp
    rename_i op t x y yt ho
    split at h
    · rename_i u1 u2 h1 h2
      rw [Option.map_eq_some_iff] at h; obtain ⟨u, hu, heq⟩ := h; cases heq
      obtain ⟨c, d⟩ := abinT_ok (P := P) (w := w) (xo := x) (yo := y) hu (aeval_rv hf h1) (aeval_rv hf h2)
      simp only [execOp, ho]; exact pureV c d
    · cases h
  · -- unOp
    rename_i op t x ho
    split at h
    · rename_i u1 h1
      rw [Option.map_eq_some_iff] at h; obtain ⟨u, hu, heq⟩ := h; cases heq
      obtain ⟨c, d⟩ := aun_ok (P := P) (w := w) hu (aeval_rv hf h1)
      simp only [execOp, ho]; exact pureV c d
    · cases h
  · -- convert
    rename_i s t x ho
    split at h
    · rename_i u1 h1
      obtain ⟨c, d, rfl⟩ := aconvert_ok (P := P) (w := w) h (aeval_rv hf h1)
      simp only [execOp, ho]; exact pureV c d
    · cases h
  · -- makeFunc
    rename_i f xs ys ho
    split at h
    · rename_i us vs h1 h2
      cases h
      have a1 := aevals_rv hf h1
      have a2 := aevals_rv hf h2
      refine .pure hr (v' := .func (.func f) (xs.map a.eval) (ys.map a.eval)) (by simp [execOp, ho, Instr.makeFunc]) ?_
      refine .func (by have := a1.1; simpa using this) (fun i v v' p q => a1.2 i v v' (by simpa using p) (by simpa using q)) (by have := a2.1; simpa using this) (fun i v v' p q => a2.2 i v v' (by simpa using p) (by simpa using q))
    · cases h
  · -- makeMap
    rename_i t ho
    split at h
    · rename_i k e _ _ _ hT
      cases h
      obtain ⟨u', w', φ', c, d, e', f⟩ := makeMap_ok (t := t) (k := k) hr hid hlt
      exact ⟨u', w', φ', .inl (by simp only [execOp, ho, Option.map_none]; exact wrap c), d, e', f⟩
    · cases h
  · -- makeSlice
    rename_i t l c ho
    split at h
    · rename_i u1 u2 h1 h2
      obtain ⟨u', w', φ', c, d, e, f⟩ := amakeSlice_ok hr hid hlt h (aeval_rv hf h1) (aeval_rv hf h2)
      exact ⟨u', w', φ', .inl (by simp only [execOp, ho]; exact wrap c), d, e, f⟩
    · cases h
  · -- slice
    rename_i t x lo hi ho
    split at h
    · rename_i u1 u2 u3 h1 h2 h3
      rw [Option.map_eq_some_iff] at h; obtain ⟨u, hu, heq⟩ := h; cases heq
      obtain ⟨v', c, d⟩ := aslice2_ok hr hu (aeval_rv hf h1) (aevalO_rv hf h2) (aevalO_rv hf h3)
      simp only [execOp, ho, Option.map_none]; exact pureV c d
    · cases h
  · -- slice with a third index
    rename_i t x lo hi m ho
    split at h
    · rename_i u1 u2 u3 u4 h1 h2 h3 h4
      rw [Option.map_eq_some_iff] at h; obtain ⟨u, hu, heq⟩ := h; cases heq
      obtain ⟨v', c, d⟩ := aslice3_ok hr hu (aeval_rv hf h1) (aevalO_rv hf h2) (aevalO_rv hf h3) (aeval_rv hf h4)
      simp only [execOp, ho, Option.map_some]; exact pureV c d
    · cases h
  · -- fieldAddr
    rename_i t x f ho
    split at h
    · rename_i u1 h1
      rw [Option.map_eq_some_iff] at h; obtain ⟨u, hu, heq⟩ := h; cases heq
      obtain ⟨v', c, d⟩ := afieldAddr_ok (P := P) (w := w) hu (aeval_rv hf h1)
      simp only [execOp, ho]; exact pureV c d
    · cases h
  · -- field
    rename_i t x f ho
    split at h
    · rename_i u1 h1
      rw [Option.map_eq_some_iff] at h; obtain ⟨u, hu, heq⟩ := h; cases heq
      obtain ⟨v', c, d⟩ := afield_ok (P := P) (w := w) hu (aeval_rv hf h1)
      simp only [execOp, ho]; exact pureV c d
    · cases h
  · -- indexAddr
    rename_i t x ix ho
    split at h
    · rename_i u1 u2 h1 h2
      rw [Option.map_eq_some_iff] at h; obtain ⟨u, hu, heq⟩ := h; cases heq
      obtain ⟨v', c, d⟩ := aindexAddr_ok (P := P) (w := w) hu (aeval_rv hf h1) (aeval_rv hf h2)
      simp only [execOp, ho]; exact pureV c d
    · cases h
  · -- index
    rename_i t x ix ho
    split at h
    · rename_i u1 u2 h1 h2
      rw [Option.map_eq_some_iff] at h; obtain ⟨u, hu, heq⟩ := h; cases heq
      obtain ⟨v', c, d⟩ := aindex_ok (P := P) (w := w) hu (aeval_rv hf h1) (aeval_rv hf h2)
      simp only [execOp, ho]; exact pureV c d
    · cases h
  · -- lookup
    rename_i t m k ok ho
    split at h
    · rename_i u1 u2 h1 h2
      rw [Option.map_eq_some_iff] at h; obtain ⟨u, hu, heq⟩ := h; cases heq
      obtain ⟨v', c, d⟩ := alookup_ok hr hu (aeval_rv hf h1) (aeval_rv hf h2)
      simp only [execOp, ho]; exact pureV c d
    · cases h
  · -- mapUpdate
    rename_i t m k x ho
    split at h
    · rename_i u1 u2 u3 h1 h2 h3
      rw [Option.map_eq_some_iff] at h; obtain ⟨s', hs, heq⟩ := h; cases heq
      obtain ⟨w', c, d, e⟩ := amapUpdate_ok (id := id) hr hs (aeval_rv hf h1) (aeval_rv hf h2) (aeval_rv hf h3)
      exact ⟨undef, w', φ, .inr ⟨by simp only [execOp, ho]; exact wrapU c, rfl⟩, RV.tuple_of (xs := []) (xs' := []) (.nil φ), d, e⟩
    · cases h
  · -- extract
    rename_i x i ho
    split at h
    · rename_i u1 h1
      rw [Option.map_eq_some_iff] at h; obtain ⟨u, hu, heq⟩ := h; cases heq
      obtain ⟨v', c, d⟩ := aextract_ok (P := P) (w := w) hu (aeval_rv hf h1)
      simp only [execOp, ho]; exact pureV c d
    · cases h
  · -- builtin
    rename_i b args ts ho
    split at h
    · rename_i vs h1
      have := abuiltin_ok (rt := o.type) (cst := args.map fun | .const _ => true | _ => false) hr hid hlt h (aevals_rv hf h1)
      simp only [execOp, ho, Sem.run_bind, resolve, Sem.run_pure, Result.andThen_ok, invoke]
      rw [toArray_toList_map]
      exact this
    · cases h
  · cases h

end Go.Abs

/- THE ABSTRACT MACHINE, part K: the rest of a function's run, step by step. -/
namespace Go.Abs
open Go

/-- The frame b with its temporaries and what is left to do; ro: the loop whose round it runs, if it runs one. -/
def fat (b : Frame) (a : Act) (ro : Option Nat) (todo : List Item) : Frame := { b.at a todo with roundOf := ro }

theorem fat_none (b : Frame) (a : Act) (todo : List Item) : fat b a none todo = b.at a todo := rfl

theorem fat_eval (b : Frame) (a : Act) (ro : Option Nat) (todo : List Item) : (fat b a ro todo).eval = a.eval := by funext x; cases x <;> rfl

/-- Block r of the world becomes o. -/
def wput (w : World) (r : Nat) (o : Obj) : World := { w with heap := w.heap.setIfInBounds r o }
theorem wput_ne {w : World} {r k : Nat} {o : Obj} (h : k ≠ r) : (wput w r o).heap[k]? = w.heap[k]? := by simp [wput, Array.getElem?_setIfInBounds_ne (Ne.symm h)]
theorem wput_same {w : World} {r : Nat} {o : Obj} (h : r < w.heap.size) : (wput w r o).heap[r]? = some o := by simp [wput, h]
theorem wput_size {w : World} {r : Nat} {o : Obj} : (wput w r o).heap.size = w.heap.size := by simp [wput]
/-- An abstract block lies where no deferred calls lie. -/
theorem BlkOk.ne {P : Program} {φ : BMap} {w : World} {B : Nat} {p : Pl} {x : ABlk} (h : BlkOk P φ w B p x) (hs : x.solid = true) (y : Option (List Deferred)) : w.heap[p.g]? ≠ some (.deferred y) := by
  intro hd
  cases x with
  | map k m => obtain ⟨_, es, c, he, _⟩ := h; rw [he] at hd; cases hd
  | loop => obtain ⟨_, t, d, he, _⟩ := h; rw [he] at hd; cases hd
  | cells cs e rw =>
    obtain ⟨_, hc, _, hr⟩ := h
    cases hrw : rw with
    | true => obtain ⟨_, _, cur, he, _⟩ := hr hrw; rw [he] at hd; cases hd
    | false =>
      subst hrw
      cases cs with
      | nil => simp [ABlk.solid] at hs
      | cons v vs =>
        obtain ⟨v', hv, _⟩ := hc 0 v rfl
        simp only [World.cell?, hd] at hv
        cases hv
theorem RH.unowned {P : Program} {φ : BMap} {σ : AHeap} {w : World} {B r : Nat} {y : Option (List Deferred)} (h : RH P φ σ w B) (hd : w.heap[r]? = some (.deferred y)) : ¬ Owns φ σ r := by
  rintro ⟨b, x, p, hx, hr, hp, rfl⟩
  obtain ⟨q, hq, hok⟩ := h.dom b x hx
  rw [hp] at hq; cases hq
  exact hok.ne (solid_of_rw hr) y hd
theorem RH.unmark {P : Program} {φ : BMap} {σ : AHeap} {w : World} {B r : Nat} {y : Option (List Deferred)} (h : RH P φ σ w B) (hd : w.heap[r]? = some (.deferred y)) (o : Obj) : RH P φ σ (wput w r o) B where
  base := by rw [wput_size]; exact h.base
  fresh := h.fresh
  dom b x hx := by
    obtain ⟨p, hp, hok⟩ := h.dom b x hx
    exact ⟨p, hp, hok.keep (.refl _) fun hs => wput_ne fun e => hok.ne hs y (e ▸ hd)⟩
  inj := h.inj
/-- What was deferred in loops is taken. -/
def takeMarks : List Deferred → World → World
  | [], w => w
  | ⟨.collected r, _⟩ :: ds, w => takeMarks ds (wput w r (.deferred none))
  | _ :: ds, w => takeMarks ds w
theorem RH.takeMarks {P : Program} {φ : BMap} {σ : AHeap} {B : Nat} : ∀ {ds : List Deferred} {w : World}, RH P φ σ w B → (∀ d ∈ ds, ∃ r y, d = { target := .collected r, args := #[] } ∧ w.heap[r]? = some (.deferred y)) → RH P φ σ (takeMarks ds w) B
  | [], w, h, _ => h
  | d :: ds, w, h, hm => by
    obtain ⟨r, y, rfl, hr⟩ := hm d (List.mem_cons_self ..)
    refine RH.takeMarks (ds := ds) (h.unmark hr _) fun d' hd' => ?_
    obtain ⟨r', y', e, hr'⟩ := hm d' (List.mem_cons_of_mem _ hd')
    by_cases hrr : r' = r
    · subst hrr; exact ⟨r', none, e, wput_same (Array.getElem?_eq_some_iff.1 hr).1⟩
    · exact ⟨r', y', e, by rw [wput_ne hrr]; exact hr'⟩

/-- In what surroundings a frame runs: the loop whose round it runs (its number here and its block in the world), and the marks that its own loops have left among the deferred calls. -/
structure Ro where
  round : Option (Nat × Nat)
  ds : List Deferred
abbrev Ro.top : Ro := ⟨none, []⟩
def Ro.l (ro : Ro) : Option Nat := match ro.round with
  | none => none
  | some x => some x.2
/-- A mark of a loop: nothing was deferred in it. -/
def IsMark (φ : BMap) (σ : AHeap) (w : World) (d : Deferred) : Prop := ∃ r, d = { target := .collected r, args := #[] } ∧ w.heap[r]? = some (.deferred (some [])) ∧ ¬ Owns φ σ r
structure RoOk (ro : Ro) (φ : BMap) (σ : AHeap) (w : World) (ds : List Deferred) : Prop where
  ds : ds = ro.ds
  mark : ∀ d ∈ ro.ds, IsMark φ σ w d
  round : ∀ b l, ro.round = some (b, l) → ∃ p, φ b = some p ∧ p.g = l
theorem IsMark.step {n0 : Nat} {φ φ' : BMap} {σ σ' : AHeap} {w w' : World} {d : Deferred} (h : IsMark φ σ w d) (s : Step n0 φ σ w φ' σ' w') : IsMark φ' σ' w' d := by
  obtain ⟨r, rfl, hr, ho⟩ := h
  have hlt : r < w.heap.size := (Array.getElem?_eq_some_iff.1 hr).1
  exact ⟨r, rfl, by rw [s.kept r hlt ho]; exact hr, fun o => ho (s.own r hlt o)⟩
theorem RoOk.step {ro : Ro} {n0 : Nat} {φ φ' : BMap} {σ σ' : AHeap} {w w' : World} {ds : List Deferred} (h : RoOk ro φ σ w ds) (s : Step n0 φ σ w φ' σ' w') : RoOk ro φ' σ' w' ds :=
  ⟨h.ds, fun d hd => (h.mark d hd).step s, fun b l e => let ⟨p, a, c⟩ := h.round b l e; ⟨p, s.ext _ _ a, c⟩⟩
theorem RoOk.top (φ : BMap) (σ : AHeap) (w : World) : RoOk .top φ σ w [] := ⟨rfl, fun d hd => by simp at hd, fun b l e => by cases e⟩

/-- How a frame ends. -/
def Fin (P : Program) (ro : Ro) (f : FuncId) (frm : Frame) (w : World) (v : Value) (w' : World) : Prop :=
  match ro.round with
  | none => frm.fn = f ∧ (frm.mode = .returning ∧ frm.defers = ro.ds ∧ frm.kind = .normal ∧ ∃ fn, P.funcs[frm.fn]? = some fn ∧ (results fn frm.tmps).run P (takeMarks ro.ds w) = .ok v (takeMarks ro.ds w)) ∧ w' = w
  | some _ => ∀ (c : Frame) (cs : List Frame), step P (lone frm (c :: cs) w) = .next (lone (c.finish v) cs w')
theorem Fin.leaving {P : Program} {f : FuncId} {frm : Frame} {w w' : World} {v : Value} (h : Fin P .top f frm w v w') : frm.leaving P w (.returned v) := h.2.1

theorem Fin.step {P : Program} {f : FuncId} {frm : Frame} {w w' : World} {v : Value} (h : Fin P .top f frm w v w') (c : Frame) (cs : List Frame) :
    step P (lone frm (c :: cs) w) = .next (lone (c.finish v) cs w') := by
  obtain ⟨_, h2, rfl⟩ := h; exact step_leave_returned h2

/-- What a run comes to. -/
def Ends (P : Program) (ro : Ro) (f : FuncId) (B : Nat) (φ : BMap) (σ : AHeap) (w : World) (fr0 : Frame) (cs : List Frame) (R : Value → AHeap → Prop) : Prop :=
  ∃ v v' σ' φ' w1 w' frm, R v σ' ∧ RV φ' v v' ∧ RH P φ' σ' w' B ∧ Step σ.next φ σ w φ' σ' w' ∧ Steps P (lone fr0 cs w) (lone frm cs w1) ∧ Fin P ro f frm w1 v' w'

/-- THE REST OF A FUNCTION: from an abstract frame and heap, with 'todo' left to do, it returns a value and a heap of which R holds. -/
def AGo (P : Program) (ro : Ro) (f : FuncId) (N : Nat) (todo : List Item) (R : Value → AHeap → Prop) (fr : Fr) (σ : AHeap) : Prop :=
  ∀ (B : Nat) (φ : BMap) (w : World) (a : Act) (b : Frame) (cs : List Frame), RH P φ σ w B → RF φ N fr a.tmps → RoOk ro φ σ w a.defers → b.fn = f → b.kind = .normal →
    Ends P ro f B φ σ w (fat b a ro.l todo) cs R

/-- A CONTRACT: called with these arguments in this heap, the function returns a value and a heap of which R holds. -/
def ACalls (P : Program) (f : FuncId) (args : List Value) (σ : AHeap) (R : Value → AHeap → Prop) : Prop :=
  ∀ (B : Nat) (φ : BMap) (w : World) (args' : List Value) (cs : List Frame), RH P φ σ w B → RVs φ args args' →
    Ends P .top f B φ σ w (Frame.enter P f args'.toArray .normal) cs R

theorem Ends.mono {P : Program} {ro : Ro} {f : FuncId} {B : Nat} {φ : BMap} {σ : AHeap} {w : World} {fr0 : Frame} {cs : List Frame} {R R' : Value → AHeap → Prop}
    (h : Ends P ro f B φ σ w fr0 cs R) (hr : ∀ v σ', R v σ' → R' v σ') : Ends P ro f B φ σ w fr0 cs R' :=
  let ⟨v, v', σ', φ', w1, w', frm, h1, h2⟩ := h; ⟨v, v', σ', φ', w1, w', frm, hr _ _ h1, h2⟩

theorem ACalls.mono {P : Program} {f : FuncId} {args : List Value} {σ : AHeap} {R R' : Value → AHeap → Prop} (h : ACalls P f args σ R) (hr : ∀ v σ', R v σ' → R' v σ') : ACalls P f args σ R' :=
  fun B φ w args' cs h1 h2 => (h B φ w args' cs h1 h2).mono hr
theorem AGo.mono {P : Program} {ro : Ro} {f : FuncId} {N : Nat} {todo : List Item} {fr : Fr} {σ : AHeap} {R R' : Value → AHeap → Prop} (h : AGo P ro f N todo R fr σ) (hr : ∀ v σ', R v σ' → R' v σ') : AGo P ro f N todo R' fr σ :=
  fun B φ w a b cs h1 h2 h3 h4 h5 => (h B φ w a b cs h1 h2 h3 h4 h5).mono hr

theorem Ends.of_steps {P : Program} {ro : Ro} {f : FuncId} {B : Nat} {φ φ1 : BMap} {σ σ1 : AHeap} {w w1 : World} {fr0 fr1 : Frame} {cs : List Frame} {R : Value → AHeap → Prop}
    (hs : Steps P (lone fr0 cs w) (lone fr1 cs w1)) (hst : Step σ.next φ σ w φ1 σ1 w1) (h : Ends P ro f B φ1 σ1 w1 fr1 cs R) : Ends P ro f B φ σ w fr0 cs R := by
  obtain ⟨v, v', σ', φ', w2, w', frm, h1, h2, h3, h4, h5, h6⟩ := h
  exact ⟨v, v', σ', φ', w2, w', frm, h1, h2, h3, hst.trans h4 hst.next, hs.trans h5, h6⟩

section
variable {P : Program} {ro : Ro} {f : FuncId} {N : Nat} {R : Value → AHeap → Prop} {fr : Fr} {σ : AHeap} {k : List Item}

/-- A step that only changes what is left to do. -/
theorem AGo.goto {todo todo' : List Item} (hs : ∀ (b : Frame) (a : Act) (cs : List Frame) (w : World), step P (lone (fat b a ro.l todo) cs w) = .next (lone (fat b a ro.l todo') cs w)) (h : AGo P ro f N todo' R fr σ) : AGo P ro f N todo R fr σ :=
  fun B φ w a b cs h1 h2 h3 h4 h5 => Ends.of_steps (.one (hs b a cs w)) (.refl _ _ _ _) (h B φ w a b cs h1 h2 h3 h4 h5)

theorem AGo.skip (h : AGo P ro f N k R fr σ) : AGo P ro f N (.code .skip :: k) R fr σ :=
  AGo.goto (fun b a cs w => step_lone_go (by simp [stepG, stepG.exec, Frame.at, fat])) h
theorem AGo.label {l : Nat} (h : AGo P ro f N k R fr σ) : AGo P ro f N (.code (.label l) :: k) R fr σ :=
  AGo.goto (fun b a cs w => step_lone_go (by simp [stepG, stepG.exec, Frame.at, fat])) h
theorem AGo.inBlock {id : Nat} (h : AGo P ro f N k R fr σ) : AGo P ro f N (.inBlock id :: k) R fr σ :=
  AGo.goto (fun b a cs w => step_lone_go (by simp [stepG, stepG.exec, Frame.at, fat])) h
theorem AGo.inScope {c : Code} (h : AGo P ro f N k R fr σ) : AGo P ro f N (.inScope c :: k) R fr σ :=
  AGo.goto (fun b a cs w => step_lone_go (by simp [stepG, stepG.exec, Frame.at, fat])) h
theorem AGo.seq {x y : Code} (h : AGo P ro f N (.code x :: .code y :: k) R fr σ) : AGo P ro f N (.code (.seq x y) :: k) R fr σ :=
  AGo.goto (fun b a cs w => step_lone_go (by simp [stepG, stepG.exec, Frame.at, fat])) h
theorem AGo.block {id : Nat} {c : Code} (h : AGo P ro f N (.code c :: .inBlock id :: k) R fr σ) : AGo P ro f N (.code (.block id c) :: k) R fr σ :=
  AGo.goto (fun b a cs w => step_lone_go (by simp [stepG, stepG.exec, Frame.at, fat])) h
theorem AGo.scope {c : Code} (h : AGo P ro f N (.code c :: .inScope c :: k) R fr σ) : AGo P ro f N (.code (.scope c) :: k) R fr σ :=
  AGo.goto (fun b a cs w => step_lone_go (by simp [stepG, stepG.exec, Frame.at, fat])) h
theorem AGo.loop {c : Code} (h : AGo P ro f N (.inLoop c :: k) R fr σ) : AGo P ro f N (.code (.loop c) :: k) R fr σ := by
  -- both lead to the same place
  intro B φ w a b cs h1 h2 h3 h4 h5
  have s1 : step P (lone (fat b a ro.l (.code (.loop c) :: k)) cs w) = .next (lone (fat b a ro.l (.code c :: .inLoop c :: k)) cs w) := step_lone_go (by simp [stepG, stepG.exec, Frame.at, fat])
  have s2 : step P (lone (fat b a ro.l (.inLoop c :: k)) cs w) = .next (lone (fat b a ro.l (.code c :: .inLoop c :: k)) cs w) := step_lone_go (by simp [stepG, stepG.exec, Frame.at, fat])
  obtain ⟨v, v', σ', φ', w1, w', frm, a1, a2, a3, a4, ⟨n, hn⟩, a6⟩ := h B φ w a b cs h1 h2 h3 h4 h5
  cases n with
  | zero =>
    -- the frame at the loop's head is not one that leaves
    simp only [runN] at hn
    injection hn with hn
    exfalso
    have hfrm : frm = fat b a ro.l (.inLoop c :: k) ∧ w1 = w := by
      simp only [lone, Machine.mk.injEq, Array.mk.injEq, List.cons.injEq, Goroutine.mk.injEq, and_true] at hn
      exact ⟨hn.2.symm, hn.1.symm⟩
    obtain ⟨rfl, rfl⟩ := hfrm
    unfold Fin at a6
    split at a6
    · obtain ⟨_, ⟨hm, _⟩, _⟩ := a6
      simp [fat, Frame.at] at hm
    have hst := a6 default []
    rw [show step P (lone (fat b a ro.l (.inLoop c :: k)) [default] w1) = .next (lone (fat b a ro.l (.code c :: .inLoop c :: k)) [default] w1) from step_lone_go (by simp [stepG, stepG.exec, Frame.at, fat])] at hst
    injection hst with hst
    simp [lone] at hst
  | succ n =>
    simp only [runN, s2] at hn
    exact ⟨v, v', σ', φ', w1, w', frm, a1, a2, a3, a4, ⟨n + 1, by simp only [runN, s1]; exact hn⟩, a6⟩
theorem AGo.inLoop {c : Code} (h : AGo P ro f N (.code c :: .inLoop c :: k) R fr σ) : AGo P ro f N (.inLoop c :: k) R fr σ :=
  AGo.goto (fun b a cs w => step_lone_go (by simp [stepG, stepG.exec, Frame.at, fat])) h
theorem AGo.exit {id : Nat} {k' : List Item} (hk : exitTo id k = some k') (h : AGo P ro f N k' R fr σ) : AGo P ro f N (.code (.exit id) :: k) R fr σ :=
  AGo.goto (fun b a cs w => step_lone_go (by simp [stepG, stepG.exec, Frame.at, fat, hk])) h
theorem AGo.gotoL {l : Nat} {k' : List Item} (hk : gotoIn l k = some k') (h : AGo P ro f N k' R fr σ) : AGo P ro f N (.code (.goto l) :: k) R fr σ :=
  AGo.goto (fun b a cs w => step_lone_go (by simp [stepG, stepG.exec, Frame.at, fat, hk])) h
theorem AGo.region {id : Nat} {ops : Array Oper} (h : AGo P ro f N (.inRegion ops (List.range ops.size) :: k) R fr σ) : AGo P ro f N (.code (.region id ops false) :: k) R fr σ :=
  AGo.goto (fun b a cs w => step_lone_go (by simp [stepG, stepG.exec, Frame.at, fat])) h
theorem AGo.regionEnd {ops : Array Oper} (h : AGo P ro f N k R fr σ) : AGo P ro f N (.inRegion ops [] :: k) R fr σ :=
  AGo.goto (fun b a cs w => step_lone_go (by simp [stepG, stepG.exec, Frame.at, fat])) h

theorem AGo.cond {c : Operand} {x y : Code} {t : Bool} (hc : aeval fr c = some (.bool t)) (h : AGo P ro f N (.code (if t then x else y) :: k) R fr σ) : AGo P ro f N (.code (.cond c x y) :: k) R fr σ := by
  intro B φ w a b cs h1 h2 h3 h4 h5
  have hv := (aeval_rv h2 hc).bool_inv
  have he := congrFun (fat_eval b a ro.l (.code (.cond c x y) :: k)) c
  have hs : step P (lone (fat b a ro.l (.code (.cond c x y) :: k)) cs w) = .next (lone (fat b a ro.l (.code (if t then x else y) :: k)) cs w) := step_lone_go (by
    simp only [fat, Frame.at] at he ⊢
    simp [stepG, stepG.exec, he, hv])
  exact Ends.of_steps (.one hs) (.refl _ _ _ _) (h B φ w a b cs h1 h2 h3 h4 h5)

theorem AGo.condT {c : Operand} {x y : Code} (hc : aeval fr c = some (.bool true)) (h : AGo P ro f N (.code x :: k) R fr σ) : AGo P ro f N (.code (.cond c x y) :: k) R fr σ := AGo.cond hc (by simpa using h)
theorem AGo.condF {c : Operand} {x y : Code} (hc : aeval fr c = some (.bool false)) (h : AGo P ro f N (.code y :: k) R fr σ) : AGo P ro f N (.code (.cond c x y) :: k) R fr σ := AGo.cond hc (by simpa using h)

/-- Fewer slots and fewer blocks are looked at. -/
theorem AGo.weaken {todo : List Item} {fr' : Fr} (hs : ∀ t v, aget fr' t = some v → aget fr t = some v) (h : AGo P ro f N todo R fr' σ) : AGo P ro f N todo R fr σ :=
  fun B φ w a b cs h1 h2 h3 h4 h5 => h B φ w a b cs h1 (h2.weaken hs) h3 h4 h5
end

/-! ### One operation -/
theorem fat_finish (b : Frame) (a : Act) (ro : Option Nat) (ops : Array Oper) (i : Nat) (rest : List Nat) (k : List Item) (v : Value) :
    (fat b a ro (.inRegion ops (i :: rest) :: k)).finish v = fat b (a.put ((ops[i]?).bind (·.dst)) v) ro (.inRegion ops rest :: k) := by
  cases h : (ops[i]?).bind (·.dst) <;> simp [Frame.finish, fat, Frame.at, Act.put, h]

theorem step_skipop {P : Program} {b : Frame} {a : Act} {ro : Option Nat} {ops : Array Oper} {i : Nat} {rest : List Nat} {k : List Item} {cs : List Frame} {w : World}
    (h : ((ops[i]?).map (Region.wanted · (yielded ops a.tmps))).getD false = false) :
    step P (lone (fat b a ro (.inRegion ops (i :: rest) :: k)) cs w) = .next (lone (fat b (a.put ((ops[i]?).bind (·.dst)) undef) ro (.inRegion ops rest :: k)) cs w) := by
  rw [← fat_finish]
  exact step_lone_go (by
    have h' := h
    simp only [fat, Frame.at] at *
    simp [stepG, stepG.exec, h'])

/-- Not a deferred call: in a round those go another way. -/
def notDefer (o : Oper) : Bool := match o.op with | .defer _ => false | _ => true

theorem stepG_opR {P : Program} {b : Frame} {a : Act} {ro : Option Nat} {ops : Array Oper} {i : Nat} {rest : List Nat} {k : List Item} {cs : List Frame} {w : World} {o : Oper} (ho : ops[i]? = some o) (hw : Region.wanted o (yielded ops a.tmps) = true) (hd : notDefer o = true) :
    stepG P true { frame := fat b a ro (.inRegion ops (i :: rest) :: k), callers := cs, status := .running, dying := none } w =
      stepG.apply P true (fat b a ro (.inRegion ops (i :: rest) :: k)) cs none (execOp a.eval o) w := by
  have he := fat_eval b a ro (.inRegion ops (i :: rest) :: k)
  simp only [fat, Frame.at] at he
  have hop : ∀ c, o.op ≠ .defer c := fun c e => by simp [notDefer, e] at hd
  cases ro with
  | none => simp [stepG, stepG.exec, stepG.oper, Frame.oper?, fat, Frame.at, ho, hw, he]
  | some l =>
    simp only [stepG, stepG.exec, stepG.oper, Frame.oper?, fat, Frame.at, ho, hw, he]
    simp only [Option.map_some, hw, Option.getD_some, if_true]
    split
    · rename_i l' c h1 h2; exact absurd h2 (hop c)
    · rfl

theorem nth_get : ∀ (l : List Oper) (j : Nat), nth (l.map (·.dst)) j = (l[j]?).bind (·.dst)
  | [], j => by simp [nth]
  | o :: r, 0 => by simp [nth]
  | o :: r, j + 1 => by simp [nth, nth_get r j]

theorem awanted_ok {φ : BMap} {N : Nat} {fr : Fr} {tmps : Array Value} {ops : Array Oper} {o : Oper} {t : Bool} (hf : RF φ N fr tmps) (h : awanted (ops.toList.map (·.dst)) fr o.guard = some t) : Region.wanted o (yielded ops tmps) = t := by
  unfold awanted at h
  unfold Region.wanted
  split at h
  · rename_i hg; cases h; rw [hg]
  · rename_i j want hg
    rw [hg]
    simp only
    have hn : nth (ops.toList.map (·.dst)) j = (ops[j]?).bind (·.dst) := by rw [nth_get]; simp
    rw [hn] at h
    split at h
    · rename_i hd; cases h; simp [yielded, hd]
    · rename_i d hd
      split at h
      · rename_i b hb
        cases h
        obtain ⟨v', h1, h2⟩ := hf.get d _ hb
        cases h2.bool_inv
        simp only [yielded, hd, Option.bind_some, h1]
        cases b <;> cases want <;> rfl
      · rename_i vs hb
        cases h
        obtain ⟨v', h1, h2⟩ := hf.get d _ hb
        obtain ⟨vs', rfl, _⟩ := h2.tuple_inv
        simp [yielded, hd, h1]
      · cases h

theorem acallee_none_exec {P : Program} {σ : AHeap} {id : Nat} {fr : Fr} {o : Oper} {r : Value × AHeap} (h : aexec P σ id fr o.op = some r) : notDefer o = true := by
  unfold notDefer
  split
  · rename_i ho; rw [ho] at h; simp [aexec] at h
  · rfl

theorem act_put (a : Act) (dst : Option Tmp) (v : Value) : (a.put dst v).tmps = match dst with | some d => a.tmps.setIfInBounds d v | none => a.tmps := by cases dst <;> rfl
theorem act_put_defers (a : Act) (dst : Option Tmp) (v : Value) : (a.put dst v).defers = a.defers := by cases dst <;> rfl

theorem RF.dst {φ : BMap} {N : Nat} {fr : Fr} {a : Act} {dst : Option Tmp} {v v' : Value} (hf : RF φ N fr a.tmps) (hd : dstOk N dst = true) (hv : RV φ v v') : RF φ N (adst fr dst v) (a.put dst v').tmps := by
  cases dst with
  | none => exact hf
  | some d => exact hf.put (by simpa [dstOk] using hd) hv

theorem OStep.toStep {φ φ' : BMap} {σ σ' : AHeap} {w w' : World} (h : OStep σ.next φ (σ.bump 1) w φ' σ' w') : Step σ.next φ σ w φ' σ' w' where
  ext := h.ext
  old b hb := h.old b (by omega)
  next := by rw [h.next]; simp
  os := h.os
  tape := h.tape
  output := h.output
  size := h.size
  kept := h.kept
  own := h.own
  dead b hb hd := h.dead b (by omega) hd
  ro := h.ro

theorem undef_rv (φ : BMap) : RV φ undef undef := RV.tuple_of (xs := []) (xs' := []) (.nil φ)

theorem step_value {P : Program} {b : Frame} {a : Act} {ro : Option Nat} {ops : Array Oper} {i : Nat} {rest : List Nat} {k : List Item} {cs : List Frame} {w w' : World} {o : Oper} {v : Value} (ho : ops[i]? = some o) (hw : Region.wanted o (yielded ops a.tmps) = true) (hd : notDefer o = true)
    (hr : (execOp a.eval o).run P w = .ok (.value v) w' ∨ ((execOp a.eval o).run P w = .ok .skip w' ∧ v = undef)) :
    step P (lone (fat b a ro (.inRegion ops (i :: rest) :: k)) cs w) = .next (lone (fat b (a.put o.dst v) ro (.inRegion ops rest :: k)) cs w') := by
  have hg := stepG_opR (P := P) (b := b) (ro := ro) (k := k) (cs := cs) (w := w) (rest := rest) ho hw hd
  have hfin : ∀ v, (fat b a ro (.inRegion ops (i :: rest) :: k)).finish v = fat b (a.put o.dst v) ro (.inRegion ops rest :: k) := by
    intro v; rw [fat_finish, ho]; rfl
  rcases hr with hr | ⟨hr, rfl⟩
  · refine step_lone_go ?_
    rw [hg, ← hfin]; simp [stepG.apply, hr]
  · refine step_lone_go ?_
    rw [hg, ← hfin]; simp [stepG.apply, hr]

section
variable {P : Program} {ro : Ro} {f : FuncId} {N : Nat} {R : Value → AHeap → Prop} {k : List Item}

/-- What is left of a region whose operations stand in the order of the text. -/
def AReg (P : Program) (ro : Ro) (f : FuncId) (N : Nat) (gds : List (Option Tmp)) (L : List SOp) (k : List Item) (R : Value → AHeap → Prop) (fr : Fr) (σ : AHeap) : Prop :=
  ∀ (ops : Array Oper) (is : List Nat), ops.toList.map (·.dst) = gds → is.map (fun i => (ops[i]?).map slim) = L.map some → AGo P ro f N (.inRegion ops is :: k) R fr σ

theorem AGo.code {id : Nat} {l : List Oper} {fr : Fr} {σ : AHeap} {gds : List (Option Tmp)} {L : List SOp} (hg : l.map (·.dst) = gds) (hL : l.map slim = L) (h : AReg P ro f N gds L k R fr σ) : AGo P ro f N (.code (.region id l.toArray false) :: k) R fr σ := by
  refine AGo.region (h _ _ (by simpa using hg) ?_)
  rw [← hL]
  apply List.ext_getElem?
  intro i
  simp only [List.size_toArray, List.getElem?_map, List.getElem?_toArray]
  by_cases hi : i < l.length
  · simp [List.getElem?_range hi, List.getElem?_eq_getElem hi]
  · simp [hi]

theorem AReg.nil {gds : List (Option Tmp)} {fr : Fr} {σ : AHeap} (h : AGo P ro f N k R fr σ) : AReg P ro f N gds [] k R fr σ := by
  intro ops is _ h2
  have : is = [] := by simpa using h2
  subst this
  exact AGo.regionEnd h

/-- One operation that is no call of a Go function. -/
theorem AReg.op {gds : List (Option Tmp)} {o : SOp} {r : List SOp} {fr fr' : Fr} {σ σ' : AHeap} (h : aop P N gds o fr σ = some (fr', σ')) (hgo : AReg P ro f N gds r k R fr' σ') : AReg P ro f N gds (o :: r) k R fr σ := by
    intro ops is e1 e2
    cases is with
    | nil => simp at e2
    | cons i is =>
      simp only [List.map_cons, List.cons.injEq] at e2
      obtain ⟨e2, e3⟩ := e2
      rw [Option.map_eq_some_iff] at e2
      obtain ⟨oo, ho, rfl⟩ := e2
      have ih := hgo ops is e1 e3
      unfold aop at h
      split at h
      · -- not wanted
        rename_i hdst hwant
        cases h
        intro B φ w a b cs h1 h2 h3 h4 h5
        have hw := awanted_ok (ops := ops) h2 (by rw [e1]; exact hwant)
        have hs := step_skipop (P := P) (b := b) (ro := ro.l) (a := a) (k := k) (cs := cs) (w := w) (ops := ops) (i := i) (rest := is) (by simp [ho, hw])
        rw [ho] at hs
        exact Ends.of_steps (.one hs) (.refl _ _ _ _) (ih B φ w _ b cs h1 (h2.dst hdst (undef_rv φ)) (by rw [act_put_defers]; exact h3) h4 h5)
      · rename_i hdst hwant
        split at h
        case h_2 => cases h
        rename_i v σ1 hex
        cases h
        intro B φ w a b cs h1 h2 h3 h4 h5
        have hw := awanted_ok (ops := ops) h2 (by rw [e1]; exact hwant)
        have hid : φ σ.next = none := h1.fresh _ (Nat.le_refl _)
        obtain ⟨v', w', φ', c1, c2, c3, c4⟩ := aexec_ok (o := oo) (h1.bump 1) h2 hid (by simp) hex
        have hs := step_value (P := P) (b := b) (ro := ro.l) (k := k) (cs := cs) (rest := is) ho hw (acallee_none_exec hex) c1
        exact Ends.of_steps (.one hs) c4.toStep (ih B φ' w' _ b cs c3 ((h2.ext c4.ext).dst hdst c2) (by rw [act_put_defers]; exact h3.step c4.toStep) h4 h5)
      · cases h

/-- The function has a body. -/
def hasBody (P : Program) (g : FuncId) : Bool :=
  match P.funcs[g]? with
  | some fn => fn.body.isSome && fn.name != "runtime.NumGoroutine"
  | none => false

/-- A call of a Go function. -/
theorem AGo.call {ops : Array Oper} {i : Nat} {r : List Nat} {o : Oper} {g : FuncId} {vs : List Value} {fr : Fr} {σ : AHeap} (ho : ops[i]? = some o) (hd : dstOk N o.dst = true) (hw : awanted (ops.toList.map (·.dst)) fr o.guard = some true) (hc : acallee fr o.op = some (g, vs)) (hb : hasBody P g = true)
    (h : ACalls P g vs σ fun v σ' => AGo P ro f N (.inRegion ops r :: k) R (adst fr o.dst v) σ') : AGo P ro f N (.inRegion ops (i :: r) :: k) R fr σ := by
  intro B φ w a b cs h1 h2 h3 h4 h5
  have hwant := awanted_ok h2 hw
  unfold acallee at hc
  split at hc
  case h_2 => cases hc
  rename_i fo args ts hop
  split at hc
  case h_2 => cases hc
  rename_i kf xs ys us e1 e2
  cases hc
  obtain ⟨xs', ys', hfv, hx, hy⟩ := (aeval_rv h2 e1).func_inv
  have hargs := aevals_rv h2 e2
  have hrun : (execOp a.eval o).run P w = .ok (.enter g (xs'.toList ++ args.toList.map a.eval ++ ys'.toList).toArray) w := by
    unfold hasBody at hb
    split at hb
    · rename_i fn hfn
      simp only [Bool.and_eq_true, bne_iff_ne, ne_eq] at hb
      have hnone : fn.body.isNone = false := by cases hbd : fn.body <;> simp_all
      have e : xs' ++ (args.map a.eval) ++ ys' = (xs'.toList ++ args.toList.map a.eval ++ ys'.toList).toArray := by apply Array.ext'; simp
      simp only [execOp, hop, Sem.run_bind, resolve, hfv, Deferred.ofValue, Sem.run_pure, Result.andThen_ok, invoke, callFunc, run_program, hfn, hb.2, hnone, if_false, Bool.false_eq_true, beq_iff_eq]
      rw [e]
    · cases hb
  have hg := stepG_opR (P := P) (b := b) (ro := ro.l) (a := a) (k := k) (cs := cs) (w := w) (rest := r) ho hwant (by simp [notDefer, hop])
  have henter : step P (lone (fat b a ro.l (.inRegion ops (i :: r) :: k)) cs w) = .next (lone (Frame.enter P g (xs'.toList ++ args.toList.map a.eval ++ ys'.toList).toArray .normal) (fat b a ro.l (.inRegion ops (i :: r) :: k) :: cs) w) :=
    step_lone_go (by rw [hg]; simp [stepG.apply, hrun, fat, Frame.at])
  obtain ⟨v, v', σ', φ', w1, w', frm, a1, a2, a3, a4, a5, a6⟩ := h B φ w _ (fat b a ro.l (.inRegion ops (i :: r) :: k) :: cs) h1 ((hx.append hargs).append hy)
  have hfin : (fat b a ro.l (.inRegion ops (i :: r) :: k)).finish v' = fat b (a.put o.dst v') ro.l (.inRegion ops r :: k) := by rw [fat_finish, ho]; rfl
  have hleave := a6.step (fat b a ro.l (.inRegion ops (i :: r) :: k)) cs
  rw [hfin] at hleave
  refine Ends.of_steps ((Steps.one henter).trans (a5.trans (.one hleave))) a4 (a1 B φ' w' _ b cs a3 ((h2.ext a4.ext).dst hd a2) (by rw [act_put_defers]; exact h3.step a4) h4 h5)

theorem AReg.call {gds : List (Option Tmp)} {o : SOp} {r : List SOp} {g : FuncId} {vs : List Value} {fr : Fr} {σ : AHeap} (hd : dstOk N o.dst = true) (hw : awanted gds fr o.guard = some true) (hc : acallee fr o.op = some (g, vs)) (hb : hasBody P g = true)
    (h : ACalls P g vs σ fun v σ' => AReg P ro f N gds r k R (adst fr o.dst v) σ') : AReg P ro f N gds (o :: r) k R fr σ := by
  intro ops is e1 e2
  cases is with
  | nil => simp at e2
  | cons i is =>
    simp only [List.map_cons, List.cons.injEq] at e2
    obtain ⟨e2, e3⟩ := e2
    rw [Option.map_eq_some_iff] at e2
    obtain ⟨oo, ho, rfl⟩ := e2
    exact AGo.call ho hd (by rw [e1]; exact hw) hc hb (h.mono fun v σ' hh => hh ops is e1 e3)

/-! ### Returning -/
def aresult (P : Program) (fr : Fr) (σ : AHeap) : ResultVar → Option Value
  | .tmp t => aget fr t
  | .cell a t => match aget fr a with
    | some p => aload P σ t p
    | none => none
def aresults (P : Program) (fr : Fr) (σ : AHeap) : List ResultVar → Option (List Value)
  | [] => some []
  | x :: r => match aresult P fr σ x, aresults P fr σ r with
    | some v, some vs => some (v :: vs)
    | _, _ => none
def packResults : List Value → Value
  | [v] => v
  | vs => .tuple vs.toArray

def resFn (tmps : Array Value) : ResultVar → Sem Value
  | .tmp t => pure (tmps.getD t undef)
  | .cell a t => do loadVar t (← asAddr (tmps.getD a undef))
theorem results_eq (fn : Func) (tmps : Array Value) : results fn tmps = (do let vs ← fn.results.mapM (resFn tmps); pure (if h : vs.size = 1 then vs[0] else .tuple vs)) := rfl

theorem aresults_run {B : Nat} {φ : BMap} {σ : AHeap} {w : World} {fr : Fr} {tmps : Array Value} (hr : RH P φ σ w B) (hf : RF φ N fr tmps) : ∀ {rs : List ResultVar} {vs : List Value}, aresults P fr σ rs = some vs →
    ∃ vs', (rs.mapM (resFn tmps)).run P w = .ok vs' w ∧ RVs φ vs vs'
  | [], vs, h => by simp only [aresults, Option.some.injEq] at h; subst h; exact ⟨[], by simp, .nil φ⟩
  | x :: r, vs, h => by
    simp only [aresults] at h
    split at h
    · rename_i v us h1 h2
      cases h
      obtain ⟨us', a1, a2⟩ := aresults_run hr hf h2
      have : ∃ v', ((resFn tmps) x).run P w = .ok v' w ∧ RV φ v v' := by
        cases x with
        | tmp t => obtain ⟨v', b1, b2⟩ := hf.get t v h1; exact ⟨v', by simp [resFn, b1], b2⟩
        | cell p t =>
          simp only [aresult] at h1
          split at h1
          · rename_i q hq
            obtain ⟨q', b1, b2⟩ := hf.get p q hq
            obtain ⟨v', b3, b4⟩ := aload_rv hr h1 b2
            refine ⟨v', ?_, b4⟩
            have hq' : ∃ ad, q' = .pointer (some ad) := by
              unfold aload at h1
              split at h1
              · obtain ⟨p, _, rfl⟩ := b2.ptr_inv; exact ⟨_, rfl⟩
              · cases h1
            obtain ⟨ad, rfl⟩ := hq'
            simp only [Instr.loadAt, Instr.sureAddr, Sem.run_bind, Sem.run_pure, Result.andThen_ok] at b3
            simp only [resFn, tmps_getD b1, Sem.run_bind, asAddr, Sem.run_pure, Result.andThen_ok, b3]
          · cases h1
      obtain ⟨v', b1, b2⟩ := this
      refine ⟨v' :: us', ?_, .cons b2 a2⟩
      simp only [List.mapM_cons, Sem.run_bind, b1, Result.andThen_ok, a1, Sem.run_pure]
    · cases h

theorem results_run {B : Nat} {φ : BMap} {σ : AHeap} {w : World} {fr : Fr} {tmps : Array Value} {fn : Func} {vs : List Value} (hr : RH P φ σ w B) (hf : RF φ N fr tmps) (h : aresults P fr σ fn.results.toList = some vs) :
    ∃ v', (results fn tmps).run P w = .ok v' w ∧ RV φ (packResults vs) v' := by
  obtain ⟨vs', a1, a2⟩ := aresults_run hr hf h
  refine ⟨packResults vs', ?_, ?_⟩
  · rw [results_eq, Array.mapM_eq_mapM_toList]
    simp only [Sem.run_bind, Sem.run_map, a1, Result.andThen_ok, Sem.run_pure]
    congr 1
    match vs' with
    | [] => rfl
    | [v] => rfl
    | v :: u :: r => simp [packResults]
  · match vs, vs', a2 with
    | [], [], a2 => exact RV.tuple_of a2
    | [v], [v'], a2 => exact a2.2 0 _ _ rfl rfl
    | v :: u :: r, v' :: u' :: r', a2 => exact RV.tuple_of a2
    | [], _ :: _, a2 => exact absurd a2.1 (by simp)
    | _ :: _, [], a2 => exact absurd a2.1 (by simp)
    | [_], _ :: _ :: _, a2 => exact absurd a2.1 (by simp)
    | _ :: _ :: _, [_], a2 => exact absurd a2.1 (by simp)

theorem Ends.leave {B : Nat} {φ : BMap} {σ : AHeap} {w : World} {fr : Fr} {a : Act} {b : Frame} {cs : List Frame} {todo todo' : List Item} {fn : Func} {vs : List Value} {ds : List Deferred} (hr : RH P φ σ w B) (hf : RF φ N fr a.tmps) (hd : RoOk ⟨none, ds⟩ φ σ w a.defers) (hb : b.fn = f) (hk : b.kind = .normal)
    (hfn : P.funcs[f]? = some fn) (h : aresults P fr σ fn.results.toList = some vs) (hR : R (packResults vs) σ)
    (hs : step P (lone (b.at a todo) cs w) = .next (lone { b.at a todo' with mode := .returning } cs w)) : Ends P ⟨none, ds⟩ f B φ σ w (fat b a none todo) cs R := by
  obtain ⟨v', a1, a2⟩ := results_run (hr.takeMarks (ds := ds) fun d hx => let ⟨r, e, hr, _⟩ := hd.mark d hx; ⟨r, _, e, hr⟩) hf h
  refine ⟨packResults vs, v', σ, φ, w, w, { b.at a todo' with mode := .returning }, hR, a2, hr, .refl _ _ _ _, .one hs, hb, ⟨rfl, hd.ds, hk, fn, ?_, a1⟩, rfl⟩
  show P.funcs[b.fn]? = some fn
  rw [hb]; exact hfn

theorem AGo.ret {fr : Fr} {σ : AHeap} {fn : Func} {vs : List Value} {ds : List Deferred} (hfn : P.funcs[f]? = some fn) (h : aresults P fr σ fn.results.toList = some vs) (hR : R (packResults vs) σ) : AGo P ⟨none, ds⟩ f N (.code .ret :: k) R fr σ :=
  fun _ _ _ _ _ _ h1 h2 h3 h4 h5 => Ends.leave h1 h2 h3 h4 h5 hfn h hR step_ret

theorem AGo.done {fr : Fr} {σ : AHeap} {fn : Func} {vs : List Value} {ds : List Deferred} (hfn : P.funcs[f]? = some fn) (h : aresults P fr σ fn.results.toList = some vs) (hR : R (packResults vs) σ) : AGo P ⟨none, ds⟩ f N [] R fr σ :=
  fun _ _ _ _ _ _ h1 h2 h3 h4 h5 => Ends.leave h1 h2 h3 h4 h5 hfn h hR step_end

/-! ### Entering -/
def aenter : Nat → List Value → Fr
  | _, [] => []
  | i, v :: r => (i, v) :: aenter (i + 1) r

theorem aenter_get : ∀ (vs : List Value) (i t : Nat) (v : Value), aget (aenter i vs) t = some v → i ≤ t ∧ vs[t - i]? = some v
  | [], i, t, v, h => by simp [aenter, aget] at h
  | u :: r, i, t, v, h => by
    simp only [aenter, aget_cons] at h
    split at h
    · rename_i e; cases h; subst e; exact ⟨Nat.le_refl _, by simp⟩
    · obtain ⟨a, b⟩ := aenter_get r (i + 1) t v h
      refine ⟨by omega, ?_⟩
      rw [show t - i = (t - (i + 1)) + 1 by omega]; simpa using b

theorem ACalls.enter {g : FuncId} {vs : List Value} {σ : AHeap} {fn : Func} {c : Code} (hfn : P.funcs[g]? = some fn) (hc : fn.body = some c) (hn : vs.length ≤ fn.ntmps)
    (h : AGo P .top g fn.ntmps [.code c] R (aenter 0 vs) σ) : ACalls P g vs σ R := by
  intro B φ w args' cs h1 h2
  let b : Frame := { (default : Frame) with fn := g, kind := .normal }
  have henter : Frame.enter P g args'.toArray .normal = fat b { tmps := args'.toArray ++ Array.replicate (fn.ntmps - args'.toArray.size) undef, defers := [] } none [.code c] := by
    simp [Frame.enter, fat, Frame.at, hfn, hc, b]
  rw [henter]
  refine h B φ w _ b cs h1 ⟨?_, fun t v hv => ?_⟩ (.top φ σ w) rfl rfl
  · have := h2.1; simp; omega
  · obtain ⟨_, hv'⟩ := aenter_get vs 0 t v hv
    obtain ⟨v', a1, a2⟩ := h2.get (i := t) (v := v) (by simpa using hv')
    refine ⟨v', ?_, a2⟩
    have ht : t < args'.length := (List.getElem?_eq_some_iff.1 a1).1
    rw [Array.getElem?_append_left (by simpa using ht)]; simpa using a1
end

end Go.Abs

/- THE ABSTRACT MACHINE, part L: what an operation looks at; operations that only read, and operations that make a block. -/
namespace Go.Abs
open Go

/-- some true: it only reads; some false: it makes one block of its own and reads no memory; none: it has an effect. -/
def quietOp : Op → Option Bool
  | .move _ | .pick .. | .build .. | .load .. | .nilCheck _ | .binOp .. | .unOp .. | .makeFunc .. | .slice .. | .fieldAddr .. | .field .. | .indexAddr .. | .index .. | .lookup .. | .extract .. => some true
  | .convert .. => some true
  | .call { callee := .builtin b, .. } => match b with
    | .len | .cap | .min | .max => some true
    | _ => none
  | .alloc _ | .box .. | .buildSlice .. | .makeSlice .. | .makeMap .. => some false
  | _ => none

def opTmps (o : Op) : List Tmp := o.operands.toList.filterMap fun | .tmp t => some t | _ => none

theorem aeval_congr {fr fr' : Fr} {x : Operand} (h : ∀ t, x = .tmp t → aget fr t = aget fr' t) : aeval fr x = aeval fr' x := by
  cases x with
  | tmp t => exact h t rfl
  | _ => rfl
theorem aevals_congr {fr fr' : Fr} : ∀ {xs : List Operand}, (∀ x ∈ xs, aeval fr x = aeval fr' x) → aevals fr xs = aevals fr' xs
  | [], _ => rfl
  | x :: r, h => by simp only [aevals, h x (List.mem_cons_self ..), aevals_congr (xs := r) fun y hy => h y (List.mem_cons_of_mem _ hy)]
theorem aparts_congr {fr fr' : Fr} : ∀ {xs : List (Nat × Operand)}, (∀ x ∈ xs.map (·.2), aeval fr x = aeval fr' x) → aparts fr xs = aparts fr' xs
  | [], _ => rfl
  | (i, x) :: r, h => by simp only [aparts, h x (by simp), aparts_congr (xs := r) fun y hy => h y (by simp at hy ⊢; exact .inr hy)]
theorem aevalO_congr {fr fr' : Fr} {x : Option Operand} (h : ∀ y ∈ x.toList, aeval fr y = aeval fr' y) : aevalO fr x = aevalO fr' x := by
  cases x with
  | none => rfl
  | some y => simp only [aevalO, h y (by simp)]

theorem aexec_congr {P : Program} {σ : AHeap} {id : Nat} {fr fr' : Fr} {o : Op} (h : ∀ x ∈ o.operands.toList, aeval fr x = aeval fr' x) : aexec P σ id fr o = aexec P σ id fr' o := by
  cases o <;> simp only [Op.operands] at h <;> try rfl
  case move x => simp only [aexec, h x (by simp)]
  case assign x => simp only [aexec, h x (by simp)]
  case pick c x y => simp only [aexec, h c (by simp), h x (by simp), h y (by simp)]
  case box e x => simp only [aexec, h x (by simp)]
  case build t ps => simp only [aexec, aparts_congr (fr := fr) (fr' := fr') (xs := ps.toList) fun x hx => h x (by simpa using hx)]
  case buildSlice t n ps => simp only [aexec, aparts_congr (fr := fr) (fr' := fr') (xs := ps.toList) fun x hx => h x (by simpa using hx)]
  case load t x => simp only [aexec, h x (by simp)]
  case store t x y => simp only [aexec, h x (by simp), h y (by simp)]
  case nilCheck x => simp only [aexec, h x (by simp)]
  case binOp op t x y u => simp only [aexec, h x (by simp), h y (by simp)]
  case unOp op t x => simp only [aexec, h x (by simp)]
  case convert s t x => simp only [aexec, h x (by simp)]
  case makeFunc fn xs ys =>
    cases fn <;> try rfl
    simp only [aexec, aevals_congr (fr := fr) (fr' := fr') (xs := xs.toList) fun x hx => h x (by simp at hx ⊢; exact .inl hx), aevals_congr (fr := fr) (fr' := fr') (xs := ys.toList) fun x hx => h x (by simp at hx ⊢; exact .inr hx)]
  case makeMap t r => cases r <;> simp only [aexec]
  case makeSlice t x y => simp only [aexec, h x (by simp), h y (by simp)]
  case slice t x lo hi mx =>
    have h1 := h x (by simp)
    have h2 := aevalO_congr (fr := fr) (fr' := fr') (x := lo) fun y hy => h y (by simp at hy ⊢; simp [hy])
    have h3 := aevalO_congr (fr := fr) (fr' := fr') (x := hi) fun y hy => h y (by simp at hy ⊢; simp [hy])
    cases mx with
    | none => simp only [aexec, h1, h2, h3]
    | some m => simp only [aexec, h1, h2, h3, h m (by simp)]
  case fieldAddr t x f => simp only [aexec, h x (by simp)]
  case field t x f => simp only [aexec, h x (by simp)]
  case indexAddr t x y => simp only [aexec, h x (by simp), h y (by simp)]
  case index t x y => simp only [aexec, h x (by simp), h y (by simp)]
  case lookup t x y ok => simp only [aexec, h x (by simp), h y (by simp)]
  case mapUpdate t x y z => simp only [aexec, h x (by simp), h y (by simp), h z (by simp)]
  case extract x i => simp only [aexec, h x (by simp)]
  case call c =>
    obtain ⟨callee, args, ats⟩ := c
    cases callee <;> try rfl
    simp only [aexec, aevals_congr (fr := fr) (fr' := fr') (xs := args.toList) fun x hx => h x (by simp [Call.operands] at hx ⊢; exact hx)]

theorem acallee_congr {fr fr' : Fr} {o : Op} (h : ∀ x ∈ o.operands.toList, aeval fr x = aeval fr' x) : acallee fr o = acallee fr' o := by
  cases o <;> try rfl
  rename_i c
  obtain ⟨callee, args, ats⟩ := c
  cases callee <;> try rfl
  rename_i f
  simp only [Op.operands, Call.operands] at h
  simp only [acallee, h f (by simp), aevals_congr (fr := fr) (fr' := fr') (xs := args.toList) fun x hx => h x (by simp at hx ⊢; exact .inr hx)]

/-- Every block of the one is a block of the other. -/
def Sub (σ τ : AHeap) : Prop := ∀ b x, σ.blk b = some x → τ.blk b = some x

theorem aload_sub {P : Program} {σ τ : AHeap} (hs : Sub σ τ) {t : TypeId} {p v : Value} (h : aload P σ t p = some v) : aload P τ t p = some v := by
  unfold aload at h ⊢
  split at h
  · split at h
    · rename_i hb hT; rw [hs _ _ hb, hT]; exact h
    · cases h
  · cases h
theorem aslice2_sub {P : Program} {σ τ : AHeap} (hs : Sub σ τ) {t : TypeId} {x v : Value} {lo hi : Option Value} (h : aslice2 P σ t x lo hi = some v) : aslice2 P τ t x lo hi = some v := by
  unfold aslice2 at h ⊢
  split at h
  · split at h
    · rename_i hE hb; rw [hs _ _ hb, hE]; exact h
    · cases h
  · exact h
theorem aslice3_sub {P : Program} {σ τ : AHeap} (hs : Sub σ τ) {t : TypeId} {x v m : Value} {lo hi : Option Value} (h : aslice3 P σ t x lo hi m = some v) : aslice3 P τ t x lo hi m = some v := by
  unfold aslice3 at h ⊢
  split at h
  · split at h
    · rename_i hE hb; rw [hs _ _ hb, hE]; exact h
    · cases h
  · cases h
theorem alookup_sub {P : Program} {σ τ : AHeap} (hs : Sub σ τ) {t : TypeId} {m k v : Value} {ok : Bool} (h : alookup P σ t m k ok = some v) : alookup P τ t m k ok = some v := by
  unfold alookup at h ⊢
  split at h
  · split at h
    · split at h
      · rename_i hb; simp only [hs _ _ hb]; exact h
      · cases h
    · cases h
  · cases h

theorem quiet_exec {P : Program} {σ τ : AHeap} {id id' : Nat} {fr : Fr} {o : Op} {v : Value} {σ' : AHeap} (hq : quietOp o = some true) (hs : Sub σ τ) (h : aexec P σ id fr o = some (v, σ')) :
    σ' = σ ∧ aexec P τ id' fr o = some (v, τ) := by
  have mapped : ∀ {x : Option Value} {y : Option Value}, (x.map (·, σ)) = some (v, σ') → (x = some v → y = some v) → σ' = σ ∧ (y.map (·, τ)) = some (v, τ) := by
    intro x y h1 h2
    rw [Option.map_eq_some_iff] at h1
    obtain ⟨u, rfl, heq⟩ := h1
    cases heq
    exact ⟨rfl, by rw [h2 rfl]; rfl⟩
  cases o <;> simp only [quietOp] at hq <;> try (cases hq; done)
  case move x => simp only [aexec] at h ⊢; exact mapped h (fun e => e)
  case pick c x y =>
    simp only [aexec] at h ⊢
    split at h
    · exact mapped h (fun e => e)
    · cases h
  case build t ps =>
    simp only [aexec] at h ⊢
    split at h
    · exact mapped h (fun e => e)
    · cases h
  case load t x =>
    simp only [aexec] at h ⊢
    split at h
    · exact mapped h (aload_sub hs)
    · cases h
  case nilCheck x =>
    simp only [aexec] at h ⊢
    split at h
    · cases h; exact ⟨rfl, rfl⟩
    · cases h; exact ⟨rfl, rfl⟩
    · cases h
  case binOp op t x y u =>
    simp only [aexec] at h ⊢
    split at h
    · exact mapped h (fun e => e)
    · cases h
  case unOp op t x =>
    simp only [aexec] at h ⊢
    split at h
    · exact mapped h (fun e => e)
    · cases h
  case convert s t x =>
    simp only [aexec] at h ⊢
    split at h
    · unfold aconvert at h ⊢
      split at h
      · split at h
        · split at h
          · cases h; exact ⟨rfl, rfl⟩
          · cases h
        · cases h
      · cases h
    · cases h
  case makeFunc fn xs ys =>
    cases fn <;> simp only [aexec] at h ⊢ <;> try (cases h; done)
    split at h
    · cases h; exact ⟨rfl, rfl⟩
    · cases h
  case slice t x lo hi mx =>
    cases mx with
    | none =>
      simp only [aexec] at h ⊢
      split at h
      · exact mapped h (aslice2_sub hs)
      · cases h
    | some m =>
      simp only [aexec] at h ⊢
      split at h
      · exact mapped h (aslice3_sub hs)
      · cases h
  case fieldAddr t x f =>
    simp only [aexec] at h ⊢
    split at h
    · exact mapped h (fun e => e)
    · cases h
  case field t x f =>
    simp only [aexec] at h ⊢
    split at h
    · exact mapped h (fun e => e)
    · cases h
  case indexAddr t x y =>
    simp only [aexec] at h ⊢
    split at h
    · exact mapped h (fun e => e)
    · cases h
  case index t x y =>
    simp only [aexec] at h ⊢
    split at h
    · exact mapped h (fun e => e)
    · cases h
  case lookup t m k ok =>
    simp only [aexec] at h ⊢
    split at h
    · exact mapped h (alookup_sub hs)
    · cases h
  case extract x i =>
    simp only [aexec] at h ⊢
    split at h
    · exact mapped h (fun e => e)
    · cases h
  case call c =>
    obtain ⟨callee, args, ats⟩ := c
    cases callee <;> simp only [quietOp] at hq <;> try (cases hq; done)
    rename_i b
    simp only [aexec] at h ⊢
    split at h
    · rename_i vs hvs
      cases b <;> simp only [quietOp] at hq <;> try (cases hq; done)
      all_goals
        match vs, h with
        | [], h => simp [abuiltin] at h
        | [x], h =>
          simp only [abuiltin] at h ⊢
          first
            | exact mapped h (fun e => e)
            | (split at h
               · exact mapped h (fun e => e)
               · cases h)
        | x :: y :: r, h =>
          first
            | (simp [abuiltin] at h; done)
            | (simp only [abuiltin] at h ⊢; exact mapped h (fun e => e))
    · cases h

/-- The block that is made. -/
theorem new_exec {P : Program} {σ : AHeap} {id : Nat} {fr : Fr} {o : Op} {v : Value} {σ' : AHeap} (hq : quietOp o = some false) (h : aexec P σ id fr o = some (v, σ')) :
    ∃ x, σ' = σ.set id x ∧ ∀ τ : AHeap, aexec P τ id fr o = some (v, τ.set id x) := by
  have anewed : ∀ {e : TypeId} {cs : List Value}, ((anew P σ id e cs).map (Value.pointer (some ⟨id, 0, none⟩), ·)) = some (v, σ') →
      ∃ x, σ' = σ.set id x ∧ ∀ τ : AHeap, ((anew P τ id e cs).map (Value.pointer (some ⟨id, 0, none⟩), ·)) = some (v, τ.set id x) := by
    intro e cs h1
    rw [Option.map_eq_some_iff] at h1
    obtain ⟨s, h1, heq⟩ := h1
    cases heq
    unfold anew at h1
    split at h1
    · rename_i hs; cases h1; exact ⟨_, rfl, fun τ => by simp only [anew]; rw [if_pos hs]; rfl⟩
    · cases h1
  cases o <;> simp only [quietOp] at hq <;> try (cases hq; done)
  case alloc e =>
    simp only [aexec] at h ⊢
    split at h
    · split at h
      · rename_i hz; obtain ⟨x, a, b⟩ := anewed h; exact ⟨x, a, fun τ => by rw [if_pos hz]; exact b τ⟩
      · cases h
    · cases h
  case box e y =>
    simp only [aexec] at h ⊢
    split at h
    · split at h
      · cases h
      · rename_i ht; obtain ⟨x, a, b⟩ := anewed h; exact ⟨x, a, fun τ => by rw [if_neg ht]; exact b τ⟩
    · cases h
  case buildSlice t n ps =>
    simp only [aexec] at h ⊢
    split at h
    · unfold abuildSlice at h ⊢
      split at h
      · split at h
        · split at h
          · rename_i hc
            split at h
            · cases h; exact ⟨_, rfl, fun τ => by rw [if_pos hc]⟩
            · cases h
          · cases h
        · cases h
      · cases h
    · cases h
  case makeMap t r =>
    cases r with
    | some _ => simp [aexec] at h
    | none =>
      simp only [aexec] at h ⊢
      split at h
      · cases h; exact ⟨_, rfl, fun τ => rfl⟩
      · cases h
  case makeSlice t l c =>
    simp only [aexec] at h ⊢
    split at h
    · unfold amakeSlice at h ⊢
      split at h
      · split at h
        · split at h
          · rename_i hc; cases h; exact ⟨_, rfl, fun τ => by rw [if_pos hc]⟩
          · cases h
        · cases h
      · cases h
    · cases h
  case call c =>
    obtain ⟨callee, args, ats⟩ := c
    cases callee <;> simp only [quietOp] at hq <;> try (cases hq; done)
    rename_i b
    cases b <;> simp [quietOp] at hq

end Go.Abs

/- THE ABSTRACT MACHINE, part M: a region whose order is drawn. -/
namespace Go.Abs
open Go

/-! ### Heaps side by side -/
theorem RH.sub {P : Program} {φ : BMap} {σ τ : AHeap} {w : World} {B : Nat} (hr : RH P φ τ w B) (hs : Sub σ τ) (hn : σ.next = τ.next) : RH P φ σ w B :=
  ⟨hr.base, fun b hb => hr.fresh b (by omega), fun b x hx => hr.dom b x (hs b x hx), fun b c x y p q hx hy => hr.inj b c x y p q (hs b x hx) (hs c y hy)⟩

theorem Owns.sub {φ : BMap} {σ τ : AHeap} {g : Nat} (h : Owns φ σ g) (hs : Sub σ τ) : Owns φ τ g :=
  let ⟨b, x, p, a, c⟩ := h; ⟨b, x, p, hs _ _ a, c⟩

/-- σ1, and behind it the blocks of τ that σ has not. -/
def join (σ τ σ1 : AHeap) : AHeap := ⟨σ1.next, fun b => match σ1.blk b with
  | some y => some y
  | none => match σ.blk b with
    | some _ => none
    | none => τ.blk b⟩

theorem join_cases {σ τ σ1 : AHeap} {b : Nat} {x : ABlk} (h : (join σ τ σ1).blk b = some x) : σ1.blk b = some x ∨ (σ1.blk b = none ∧ σ.blk b = none ∧ τ.blk b = some x) := by
  simp only [join] at h
  split at h
  · rename_i hb; left; rw [hb]; exact h
  · rename_i hb
    split at h
    · cases h
    · rename_i hb'; exact .inr ⟨hb, hb', h⟩

/-- What a run does to a part of the heap, it does to the whole. -/
theorem RH.join {P : Program} {φ φ' : BMap} {σ τ σ1 : AHeap} {w w' : World} {B n0 : Nat} (hτ : RH P φ τ w B) (hs : Sub σ τ) (hst : Step n0 φ σ w φ' σ1 w') (h1 : RH P φ' σ1 w' B) : RH P φ' (join σ τ σ1) w' B := by
  have notOwned : ∀ b x p, σ.blk b = none → τ.blk b = some x → x.solid = true → φ b = some p → ¬ Owns φ σ p.g := by
    intro b x p hb hx hsol hp ⟨c, y, q, hy, hrw, hq, he⟩
    have := hτ.inj c b y x q p (hs c y hy) hx hrw hsol hq hp he
    subst this; rw [hy] at hb; cases hb
  have cross : ∀ b c x y p q, σ1.blk b = some x → σ.blk c = none → τ.blk c = some y → (x.rw = true ∨ y.rw = true) → x.solid = true → y.solid = true → φ' b = some p → φ' c = some q → p.g = q.g → False := by
    intro b c x y p q hx hc hy hor hxs hys hp hq he
    obtain ⟨q', hq', hok⟩ := hτ.dom c y hy
    have := hst.ext c q' hq'
    rw [hq] at this; cases this
    have hlt := hok.lt hys
    cases hxr : x.rw with
    | true =>
      exact notOwned c y q hc hy hys hq' (hst.own q.g hlt ⟨b, x, p, hx, hxr, hp, he⟩)
    | false =>
      have hxσ := hst.ro b x hx hxr
      have hyr : y.rw = true := by rcases hor with h | h; rw [hxr] at h; cases h; exact h
      obtain ⟨p', hp', _⟩ := hτ.dom b x (hs b x hxσ)
      have := hst.ext b p' hp'
      rw [hp] at this; cases this
      have := hτ.inj c b y x q p hy (hs b x hxσ) hyr hxs hq' hp' he.symm
      subst this; rw [hxσ] at hc; cases hc
  refine ⟨h1.base, h1.fresh, fun b x hx => ?_, fun b c x y p q hx hy hrw hsol hp hq he => ?_⟩
  · rcases join_cases hx with hx | ⟨_, hb, hx⟩
    · exact h1.dom b x hx
    · obtain ⟨p, hp, hok⟩ := hτ.dom b x hx
      exact ⟨p, hst.ext b p hp, hok.keep hst.ext (fun hs' => hst.kept p.g (hok.lt hs') (notOwned b x p hb hx hs' hp))⟩
  · rcases join_cases hx with hx' | ⟨hb1, hb, hx'⟩ <;> rcases join_cases hy with hy' | ⟨hc1, hc, hy'⟩
    · exact h1.inj b c x y p q hx' hy' hrw hsol hp hq he
    · exact (cross b c x y p q hx' hc hy' (.inl hrw) (solid_of_rw hrw) hsol hp hq he).elim
    · exact (cross c b y x q p hy' hb hx' (.inr hrw) hsol (solid_of_rw hrw) hq hp he.symm).elim
    · obtain ⟨p', hp', _⟩ := hτ.dom b x hx'
      obtain ⟨q', hq', _⟩ := hτ.dom c y hy'
      have e1 := hst.ext b p' hp'; rw [hp] at e1; cases e1
      have e2 := hst.ext c q' hq'; rw [hq] at e2; cases e2
      exact hτ.inj b c x y p q hx' hy' hrw hsol hp' hq' he

theorem Step.join {φ φ' : BMap} {σ τ σ1 : AHeap} {w w' : World} {B n0 n1 : Nat} {P : Program} (hτ : RH P φ τ w B) (hs : Sub σ τ) (hn : σ.next = τ.next) (hst : Step n1 φ σ w φ' σ1 w') (hle : n0 ≤ n1) : Step n0 φ τ w φ' (Abs.join σ τ σ1) w' where
  ext := hst.ext
  old b hb := hst.old b (by omega)
  next := by show τ.next ≤ σ1.next; rw [← hn]; exact hst.next
  os := hst.os
  tape := hst.tape
  output := hst.output
  size := hst.size
  kept g hg hno := hst.kept g hg (fun ho => hno (ho.sub hs))
  own g hg ho := by
    obtain ⟨b, x, p, hx, hrw, hp, he⟩ := ho
    rcases join_cases hx with hx' | ⟨_, hb, hx'⟩
    · exact (hst.own g hg ⟨b, x, p, hx', hrw, hp, he⟩).sub hs
    · obtain ⟨p', hp', _⟩ := hτ.dom b x hx'
      have e1 := hst.ext b p' hp'; rw [hp] at e1; cases e1
      exact ⟨b, x, p, hx', hrw, hp', he⟩
  dead b hb hd := by
    have hσ : σ.blk b = none := by cases h : σ.blk b with | none => rfl | some x => rw [hs b x h] at hd; cases hd
    simp only [Abs.join, hst.dead b (by omega) hσ, hσ, hd]
  ro b x hx hr := by
    rcases join_cases hx with hx' | ⟨_, _, hx'⟩
    · exact hs b x (hst.ro b x hx' hr)
    · exact hx'

/-! ### What is computed ahead -/
def sget : List SOp → Nat → Option SOp
  | [], _ => none
  | x :: _, 0 => some x
  | _ :: r, i + 1 => sget r i
theorem sget_get : ∀ (l : List SOp) (i : Nat), sget l i = l[i]?
  | [], i => by simp [sget]
  | x :: r, 0 => by simp [sget]
  | x :: r, i + 1 => by simp [sget, sget_get r i]

structure Ent where
  i : Nat
  o : SOp
  v : Value
  nb : Option ABlk

/-- The value of an operation that only reads or makes a block. -/
noncomputable def nval (P : Program) (N : Nat) (gds : List (Option Tmp)) (σ : AHeap) (id : Nat) (fr : Fr) (o : SOp) : Option (Value × Option ABlk) :=
  match dstOk N o.dst, awanted gds fr o.guard with
  | true, some false => some (.tuple #[], none)
  | true, some true =>
    match quietOp o.op with
    | some q =>
      match aexec P σ id fr o.op with
      | some (v, τ) => some (v, cond q none (τ.blk id))
      | none => none
    | none => none
  | _, _ => none

noncomputable def nrun (P : Program) (N : Nat) (gds : List (Option Tmp)) (L : List SOp) (base : Nat) (σ : AHeap) : List Nat → Fr → Option (List Ent)
  | [], _ => some []
  | i :: r, fr =>
    match sget L i with
    | none => none
    | some o =>
      match nval P N gds σ (base + i) fr o with
      | none => none
      | some (v, nb) =>
        match nrun P N gds L base σ r (adst fr o.dst v) with
        | none => none
        | some T => some (⟨i, o, v, nb⟩ :: T)

theorem nrun_nil {P : Program} {N : Nat} {gds : List (Option Tmp)} {L : List SOp} {base : Nat} {σ : AHeap} {fr : Fr} : nrun P N gds L base σ [] fr = some [] := rfl
theorem nrun_cons {P : Program} {N : Nat} {gds : List (Option Tmp)} {L : List SOp} {base : Nat} {σ : AHeap} {i : Nat} {r : List Nat} {fr fr' : Fr} {o : SOp} {v : Value} {nb : Option ABlk} {T : List Ent} (ho : sget L i = some o) (hv : nval P N gds σ (base + i) fr o = some (v, nb))
    (hf : adst fr o.dst v = fr') (hr : nrun P N gds L base σ r fr' = some T) : nrun P N gds L base σ (i :: r) fr = some (⟨i, o, v, nb⟩ :: T) := by
  simp only [nrun, ho, hv, hf, hr]

def putT : Fr → List Ent → Fr
  | fr, [] => fr
  | fr, e :: T => putT (adst fr e.o.dst e.v) T
def setT (base : Nat) : AHeap → List Ent → AHeap
  | σ, [] => σ
  | σ, ⟨i, _, _, some x⟩ :: T => setT base (σ.set (base + i) x) T
  | σ, ⟨_, _, _, none⟩ :: T => setT base σ T

section
variable {P : Program} {N : Nat} {gds : List (Option Tmp)} {L : List SOp} {base : Nat} {σ : AHeap}

theorem nrun_idx : ∀ {l : List Nat} {fr : Fr} {T : List Ent}, nrun P N gds L base σ l fr = some T → T.map (·.i) = l
  | [], fr, T, h => by simp only [nrun, Option.some.injEq] at h; subst h; rfl
  | i :: r, fr, T, h => by
    simp only [nrun] at h
    split at h
    · cases h
    · split at h
      · cases h
      · split at h
        · cases h
        · rename_i hT; cases h; simp [nrun_idx hT]

theorem nrun_at : ∀ {l : List Nat} {fr : Fr} {T T1 T2 : List Ent} {e : Ent}, nrun P N gds L base σ l fr = some T → T = T1 ++ e :: T2 →
    sget L e.i = some e.o ∧ nval P N gds σ (base + e.i) (putT fr T1) e.o = some (e.v, e.nb)
  | [], fr, T, T1, T2, e, h, hT => by simp only [nrun, Option.some.injEq] at h; subst h; simp at hT
  | i :: r, fr, T, T1, T2, e, h, hT => by
    simp only [nrun] at h
    split at h
    · cases h
    · rename_i o ho
      split at h
      · cases h
      · rename_i v nb hv
        split at h
        · cases h
        · rename_i T' hT'
          cases h
          cases T1 with
          | nil =>
            simp only [List.nil_append, List.cons.injEq] at hT
            obtain ⟨rfl, _⟩ := hT
            exact ⟨ho, hv⟩
          | cons x T1 =>
            simp only [List.cons_append, List.cons.injEq] at hT
            obtain ⟨rfl, hT⟩ := hT
            exact nrun_at (T := T') (T1 := T1) hT' hT

theorem nrun_append : ∀ {l l' : List Nat} {fr : Fr} {T T' : List Ent}, nrun P N gds L base σ l fr = some T → nrun P N gds L base σ l' (putT fr T) = some T' → nrun P N gds L base σ (l ++ l') fr = some (T ++ T')
  | [], l', fr, T, T', h, h' => by simp only [nrun, Option.some.injEq] at h; subst h; exact h'
  | i :: r, l', fr, T, T', h, h' => by
    simp only [nrun] at h
    split at h
    · cases h
    · rename_i o ho
      split at h
      · cases h
      · rename_i v nb hv
        split at h
        · cases h
        · rename_i T1 hT1
          cases h
          have ih := nrun_append hT1 h'
          simp only [List.cons_append, nrun, ho, hv, ih]

theorem putT_get : ∀ {T : List Ent} {fr : Fr} {t : Nat} {u : Value}, aget (putT fr T) t = some u →
    (∃ e ∈ T, e.o.dst = some t ∧ e.v = u) ∨ ((∀ e ∈ T, e.o.dst ≠ some t) ∧ aget fr t = some u)
  | [], fr, t, u, h => .inr ⟨fun _ h => (by cases h), h⟩
  | e :: T, fr, t, u, h => by
    rcases putT_get (T := T) h with ⟨e', he', a, b⟩ | ⟨hno, h'⟩
    · exact .inl ⟨e', List.mem_cons_of_mem _ he', a, b⟩
    · cases hd : e.o.dst with
      | none =>
        simp only [adst, hd] at h'
        exact .inr ⟨fun x hx => by cases hx with | head => rw [hd]; simp | tail _ hx => exact hno x hx, h'⟩
      | some d =>
        simp only [adst, hd, aget_aput] at h'
        split at h'
        · rename_i e1; subst e1; cases h'; exact .inl ⟨e, List.mem_cons_self .., hd, rfl⟩
        · rename_i e1
          exact .inr ⟨fun x hx => by cases hx with | head => rw [hd]; simpa using e1 | tail _ hx => exact hno x hx, h'⟩

theorem setT_next : ∀ (T : List Ent) (σ : AHeap), (setT base σ T).next = σ.next
  | [], _ => rfl
  | ⟨i, _, _, some x⟩ :: T, σ => by simp only [setT]; rw [setT_next T]; rfl
  | ⟨i, _, _, none⟩ :: T, σ => by simp only [setT]; rw [setT_next T]

theorem setT_blk : ∀ (T : List Ent) (σ : AHeap) (b : Nat) (x : ABlk), (setT base σ T).blk b = some x → (∃ e ∈ T, b = base + e.i ∧ e.nb = some x) ∨ ((∀ e ∈ T, e.nb.isSome = true → b ≠ base + e.i) ∧ σ.blk b = some x)
  | [], σ, b, x, h => .inr ⟨fun _ h => (by cases h), h⟩
  | ⟨i, o, v, some y⟩ :: T, σ, b, x, h => by
    simp only [setT] at h
    rcases setT_blk T _ b x h with ⟨e, he, h1, h2⟩ | ⟨hno, h'⟩
    · exact .inl ⟨e, List.mem_cons_of_mem _ he, h1, h2⟩
    · rw [AHeap.set_blk] at h'
      split at h'
      · rename_i e1; cases h'; exact .inl ⟨_, List.mem_cons_self .., e1, rfl⟩
      · rename_i e1
        exact .inr ⟨fun e he hs => by cases he with | head => exact e1 | tail _ he => exact hno e he hs, h'⟩
  | ⟨i, o, v, none⟩ :: T, σ, b, x, h => by
    simp only [setT] at h
    rcases setT_blk T _ b x h with ⟨e, he, h1, h2⟩ | ⟨hno, h'⟩
    · exact .inl ⟨e, List.mem_cons_of_mem _ he, h1, h2⟩
    · exact .inr ⟨fun e he hs => by cases he with | head => simp at hs | tail _ he => exact hno e he hs, h'⟩

theorem setT_none : ∀ (T : List Ent) (σ : AHeap) (b : Nat), (∀ e ∈ T, e.nb.isSome = true → b ≠ base + e.i) → (setT base σ T).blk b = σ.blk b
  | [], σ, b, _ => rfl
  | ⟨i, o, v, some y⟩ :: T, σ, b, h => by
    simp only [setT]
    rw [setT_none T _ b (fun e he => h e (List.mem_cons_of_mem _ he)), AHeap.set_blk, if_neg (h _ (List.mem_cons_self ..) rfl)]
  | ⟨i, o, v, none⟩ :: T, σ, b, h => by
    simp only [setT]
    exact setT_none T _ b (fun e he => h e (List.mem_cons_of_mem _ he))

theorem setT_mem : ∀ (T : List Ent) (σ : AHeap) (e : Ent) (x : ABlk), e ∈ T → e.nb = some x → (T.map (·.i)).Nodup → (setT base σ T).blk (base + e.i) = some x
  | [], σ, e, x, h, _, _ => by cases h
  | ⟨i, o, v, nb⟩ :: T, σ, e, x, h, hx, hn => by
    simp only [List.map_cons, List.nodup_cons] at hn
    cases h with
    | head =>
      simp only at hx; subst hx
      simp only [setT]
      rw [setT_none, AHeap.set_blk, if_pos rfl]
      intro e' he' _ heq
      exact hn.1 (List.mem_map.2 ⟨e', he', by show e'.i = i; have : base + i = base + e'.i := heq; omega⟩)
    | tail _ h =>
      cases nb with
      | some y => simp only [setT]; exact setT_mem T _ e x h hx hn.2
      | none => simp only [setT]; exact setT_mem T _ e x h hx hn.2
end

end Go.Abs

/- THE ABSTRACT MACHINE, part N: a region whose order is drawn: whatever the order, the same comes out. -/
namespace Go.Abs
open Go

theorem Step.weak {n0 : Nat} {φ φ' : BMap} {σ τ σ' : AHeap} {w w' : World} (h : Step n0 φ σ w φ' σ' w') (hs : Sub σ τ) (hn : σ.next = τ.next) : Step n0 φ τ w φ' σ' w' where
  ext := h.ext
  old := h.old
  next := by rw [← hn]; exact h.next
  os := h.os
  tape := h.tape
  output := h.output
  size := h.size
  kept g hg hno := h.kept g hg (fun ho => hno (ho.sub hs))
  own g hg ho := (h.own g hg ho).sub hs
  dead b hb hd := h.dead b hb (by cases hx : σ.blk b with | none => rfl | some x => rw [hs b x hx] at hd; cases hd)
  ro b x hx hr := hs b x (h.ro b x hx hr)

/-! ### What is asked of a region -/
def predsOf (ops : Array Oper) (i : Nat) : List Nat :=
  match ops[i]? with
  | some o => (o.after.toList.filter (Region.binds .any)).map (·.on)
  | none => []
def looksOf (ops : Array Oper) (i : Nat) : List Tmp :=
  match ops[i]? with
  | some o => o.looksAt ops
  | none => []
def dstOf (ops : Array Oper) (i : Nat) : Option Tmp := (ops[i]?).bind (·.dst)

/-- j's destination is one of those that i looks at. -/
def seesB (ops : Array Oper) (i j : Nat) : Bool :=
  match dstOf ops j with
  | some d => (looksOf ops i).contains d
  | none => false
def sameDstB (ops : Array Oper) (i j : Nat) : Bool :=
  match dstOf ops i, dstOf ops j with
  | some d, some e => d == e
  | _, _ => false

def ancB (ops : Array Oper) : List Nat → Nat → Bool
  | [], _ => true
  | j :: A, e => ((A ++ [e]).any fun c => (predsOf ops c).contains j) && ancB ops A e

def ssaB (ops : Array Oper) : List Nat → Bool
  | [] => true
  | i :: l => (l.all fun j => !sameDstB ops i j && !seesB ops i j && (!seesB ops j i || (predsOf ops j).contains i)) && ssaB ops l

abbrev Stage := List Nat × Nat × List Nat
def flat : List Stage → List Nat → List Nat
  | [], Af => Af
  | (A, e, _) :: S, Af => A ++ e :: flat S Af

def stageList : List Stage → List Nat → List Nat
  | [], Af => Af
  | (A, _, M) :: _, _ => A ++ M

def stageB (ops : Array Oper) (A : List Nat) (e : Nat) (M rest : List Nat) : Bool :=
  ancB ops A e && (M.all fun m => rest.contains m) && (rest.all fun i => M.contains i || (predsOf ops i).any fun p => p == e || (rest.contains p && !M.contains p)) &&
  ssaB ops (A ++ M) && (M.all fun j => !sameDstB ops e j && !seesB ops e j)

def nodupB : List Nat → Bool
  | [] => true
  | i :: l => !l.contains i && nodupB l

def stagesB (ops : Array Oper) : List Stage → List Nat → Bool
  | [], Af => ssaB ops Af
  | (A, e, M) :: S, Af => stageB ops A e M (flat S Af) && ((M.all fun m => (stageList S Af).contains m) && nodupB M) && stagesB ops S Af

def linB (ops : Array Oper) : List Nat → List Nat → Bool
  | _, [] => true
  | d, i :: C => ((predsOf ops i).all fun p => d.contains p) && linB ops (i :: d) C

def drawB (ops : Array Oper) (S : List Stage) (Af : List Nat) : Bool :=
  ((List.range ops.size).all fun i => (flat S Af).contains i) && nodupB (flat S Af) && ((flat S Af).all fun i => decide (i < ops.size)) && linB ops [] (flat S Af) && stagesB ops S Af && decide ((flat S Af).length ≤ ops.size) && ops.all fun o => notDefer o

theorem nodup_of : ∀ {l : List Nat}, nodupB l = true → l.Nodup
  | [], _ => List.nodup_nil
  | i :: l, h => by
    simp only [nodupB, Bool.and_eq_true, Bool.not_eq_true', List.contains_eq_mem, decide_eq_false_iff_not] at h
    exact List.nodup_cons.2 ⟨h.1, nodup_of h.2⟩

theorem ssa_spec {ops : Array Oper} : ∀ {l : List Nat}, ssaB ops l = true → ∀ l1 i l2, l = l1 ++ i :: l2 → (∀ j ∈ l2, sameDstB ops i j = false ∧ seesB ops i j = false) ∧ (∀ j ∈ l1, sameDstB ops j i = false ∧ (seesB ops i j = true → j ∈ predsOf ops i))
  | [], _, l1, i, l2, e => by simp at e
  | a :: l, h, l1, i, l2, e => by
    simp only [ssaB, Bool.and_eq_true, List.all_eq_true, Bool.not_eq_true', Bool.or_eq_true, List.contains_eq_mem, decide_eq_true_eq] at h
    obtain ⟨h1, h2⟩ := h
    cases l1 with
    | nil =>
      simp only [List.nil_append, List.cons.injEq] at e
      obtain ⟨rfl, rfl⟩ := e
      exact ⟨fun j hj => ⟨(h1 j hj).1.1, (h1 j hj).1.2⟩, fun j hj => by cases hj⟩
    | cons b l1 =>
      simp only [List.cons_append, List.cons.injEq] at e
      obtain ⟨rfl, e⟩ := e
      obtain ⟨k1, k2⟩ := ssa_spec h2 l1 i l2 e
      refine ⟨k1, fun j hj => ?_⟩
      cases hj with
      | head =>
        have := h1 i (by rw [e]; simp)
        refine ⟨this.1.1, fun hs => ?_⟩
        rcases this.2 with hh | hh
        · rw [hs] at hh; cases hh
        · exact hh
      | tail _ hj => exact k2 j hj

theorem lin_spec {ops : Array Oper} : ∀ {C d : List Nat}, linB ops d C = true → ∀ C1 i C2, C = C1 ++ i :: C2 → ∀ p ∈ predsOf ops i, p ∈ d ∨ p ∈ C1
  | [], d, _, C1, i, C2, e => by simp at e
  | a :: C, d, h, C1, i, C2, e => by
    simp only [linB, Bool.and_eq_true, List.all_eq_true, List.contains_eq_mem, decide_eq_true_eq] at h
    obtain ⟨h1, h2⟩ := h
    cases C1 with
    | nil =>
      simp only [List.nil_append, List.cons.injEq] at e
      obtain ⟨rfl, rfl⟩ := e
      exact fun p hp => .inl (h1 p hp)
    | cons b C1 =>
      simp only [List.cons_append, List.cons.injEq] at e
      obtain ⟨rfl, e⟩ := e
      intro p hp
      rcases lin_spec h2 C1 i C2 e p hp with h | h
      · cases h with
        | head => exact .inr (List.mem_cons_self ..)
        | tail _ h => exact .inl h
      · exact .inr (List.mem_cons_of_mem _ h)

theorem anc_spec {ops : Array Oper} {ex : Nat → Prop} (hclosed : ∀ i, ex i → ∀ p ∈ predsOf ops i, ex p) : ∀ {A : List Nat} {e : Nat}, ancB ops A e = true → (∀ p ∈ predsOf ops e, ex p) → ∀ j ∈ A, ex j
  | [], e, _, _, j, hj => by cases hj
  | a :: A, e, h, he, j, hj => by
    simp only [ancB, Bool.and_eq_true, List.any_eq_true, List.mem_append, List.mem_singleton, List.contains_eq_mem, decide_eq_true_eq] at h
    obtain ⟨⟨c, hc, hp⟩, h2⟩ := h
    have ih := anc_spec hclosed h2 he
    cases hj with
    | tail _ hj => exact ih j hj
    | head =>
      rcases hc with hc | rfl
      · exact hclosed c (ih c hc) a hp
      · exact he a hp

/-! ### The abstract run of such a region -/
def agree (pend T : List Ent) : Prop := ∀ x ∈ pend, ∃ y ∈ T, y.i = x.i ∧ y.v = x.v ∧ y.nb = x.nb

/-- One operation that has an effect. -/
def Exec (P : Program) (N : Nat) (gds : List (Option Tmp)) (id : Nat) (o : SOp) (fr : Fr) (σ : AHeap) (Q : Value → AHeap → Prop) : Prop :=
  dstOk N o.dst = true ∧ ((awanted gds fr o.guard = some false ∧ Q (.tuple #[]) σ) ∨ (awanted gds fr o.guard = some true ∧
    ((∃ v σ1, aexec P σ id fr o.op = some (v, σ1) ∧ Q v σ1) ∨ (∃ g vs, acallee fr o.op = some (g, vs) ∧ hasBody P g = true ∧ ACalls P g vs σ Q))))

def DGo (P : Program) (N : Nat) (gds : List (Option Tmp)) (L : List SOp) (base : Nat) (K : Fr → AHeap → Prop) : List Ent → List Stage → List Nat → Fr → AHeap → Prop
  | pend, [], Af, fr, σ => ∃ T, nrun P N gds L base σ Af fr = some T ∧ agree pend T ∧ K (putT fr T) (setT base σ T)
  | pend, (A, e, M) :: S, Af, fr, σ => ∃ TA TM o, nrun P N gds L base σ A fr = some TA ∧ nrun P N gds L base σ M (putT fr TA) = some TM ∧ agree pend (TA ++ TM) ∧ sget L e = some o ∧
      Exec P N gds (base + e) o (putT fr TA) (setT base σ TA) fun v σ1 => DGo P N gds L base K TM S Af (adst (putT fr TA) o.dst v) σ1

/-- A frame that knows these slots alone. -/
def only (fr : Fr) : List Tmp → Fr
  | [] => []
  | t :: r => match aget fr t with
    | some v => (t, v) :: only fr r
    | none => only fr r
theorem only_get {fr : Fr} : ∀ {l : List Tmp} {t : Tmp} {v : Value}, aget (only fr l) t = some v → t ∈ l ∧ aget fr t = some v
  | [], t, v, h => by simp [only, aget] at h
  | a :: r, t, v, h => by
    simp only [only] at h
    split at h
    · rename_i u hu
      rw [aget_cons] at h
      split at h
      · rename_i e; subst e; cases h; exact ⟨List.mem_cons_self .., hu⟩
      · obtain ⟨x, y⟩ := only_get h; exact ⟨List.mem_cons_of_mem _ x, y⟩
    · obtain ⟨x, y⟩ := only_get h; exact ⟨List.mem_cons_of_mem _ x, y⟩
theorem only_mem {fr : Fr} : ∀ {l : List Tmp} {t : Tmp}, t ∈ l → aget (only fr l) t = aget fr t
  | [], t, h => by cases h
  | a :: r, t, h => by
    simp only [only]
    split
    · rename_i u hu
      rw [aget_cons]
      split
      · rename_i e; subst e; exact hu.symm
      · rename_i e
        cases h with
        | head => exact absurd rfl e
        | tail _ h => exact only_mem h
    · rename_i hu
      by_cases hr : t ∈ r
      · exact only_mem hr
      · cases h with
        | head =>
          rw [hu]
          cases hg : aget (only fr r) a with
          | none => rfl
          | some v => exact absurd (only_get hg).1 hr
        | tail _ h => exact absurd h hr

theorem only_exec {P : Program} {σ : AHeap} {id : Nat} {fr : Fr} {ops : Array Oper} {i : Nat} {o : Oper} (ho : ops[i]? = some o) : aexec P σ id (only fr (looksOf ops i)) o.op = aexec P σ id fr o.op :=
  aexec_congr fun x hx => aeval_congr fun t ht => only_mem (by
    subst ht
    simp only [looksOf, ho, Oper.looksAt]
    exact List.mem_append_left _ (List.mem_filterMap.2 ⟨.tmp t, hx, rfl⟩))
theorem only_callee {fr : Fr} {ops : Array Oper} {i : Nat} {o : Oper} (ho : ops[i]? = some o) : acallee (only fr (looksOf ops i)) o.op = acallee fr o.op :=
  acallee_congr fun x hx => aeval_congr fun t ht => only_mem (by
    subst ht
    simp only [looksOf, ho, Oper.looksAt]
    exact List.mem_append_left _ (List.mem_filterMap.2 ⟨.tmp t, hx, rfl⟩))
theorem only_wanted {fr : Fr} {ops : Array Oper} {i : Nat} {o : Oper} (ho : ops[i]? = some o) : awanted (ops.toList.map (·.dst)) (only fr (looksOf ops i)) o.guard = awanted (ops.toList.map (·.dst)) fr o.guard := by
  unfold awanted
  cases hg : o.guard with
  | none => rfl
  | some gw =>
    obtain ⟨j, want⟩ := gw
    simp only
    have hn : nth (ops.toList.map (·.dst)) j = (ops[j]?).bind (·.dst) := by rw [nth_get]; simp
    rw [hn]
    cases hd : (ops[j]?).bind (·.dst) with
    | none => rfl
    | some d =>
      simp only
      rw [only_mem]
      simp only [looksOf, ho, Oper.looksAt, hg, hd]
      exact List.mem_append_right _ (by simp)

theorem sees_of {ops : Array Oper} {i j : Nat} {t : Tmp} (ht : t ∈ looksOf ops i) (hd : dstOf ops j = some t) : seesB ops i j = true := by
  simp only [seesB, hd, List.contains_eq_mem, decide_eq_true_eq]; exact ht
theorem same_of {ops : Array Oper} {i j : Nat} {t : Tmp} (hi : dstOf ops i = some t) (hj : dstOf ops j = some t) : sameDstB ops i j = true := by
  simp [sameDstB, hi, hj]

end Go.Abs

/- THE ABSTRACT MACHINE, part O: the simulation of a drawn region. -/
namespace Go.Abs
open Go

def ex (listed : Array Bool) (i : Nat) : Bool := listed.getD i false

/-- How things stand in the middle of the region. -/
structure Inv (P : Program) (N : Nat) (B base : Nat) (ops : Array Oper) (C M0 : List Nat) (T0 : List Ent) (listed : Array Bool) (fr : Fr) (σ : AHeap) (φ : BMap) (w : World) (a : Act) : Prop where
  size : listed.size = ops.size
  nodup : C.Nodup
  bound : ∀ i ∈ C, i < ops.size
  done : ∀ i, i < ops.size → i ∉ C → ex listed i = true
  inM : ∀ i ∈ C, ex listed i = true → i ∈ M0
  closed : ∀ i, ex listed i = true → ∀ p ∈ predsOf ops i, ex listed p = true
  lin : ∀ C1 i C2, C = C1 ++ i :: C2 → ∀ p ∈ predsOf ops i, p < ops.size ∧ p ∉ i :: C2
  tmps : a.tmps.size = N
  slots : ∀ e ∈ T0, ex listed e.i = true → ∀ d, e.o.dst = some d → ∃ v', a.tmps[d]? = some v' ∧ RV φ e.v v'
  rest : ∀ t v, aget fr t = some v → (∀ e ∈ T0, ex listed e.i = true → e.o.dst ≠ some t) → ∃ v', a.tmps[t]? = some v' ∧ RV φ v v'
  heap : RH P φ (setT base σ (T0.filter fun e => ex listed e.i)) w B
  fresh : ∀ i ∈ C, ex listed i = false → φ (base + i) = none
  dead : ∀ i ∈ C, σ.blk (base + i) = none
  next : base + ops.size ≤ σ.next

theorem ex_set {listed : Array Bool} {i j : Nat} (hi : i < listed.size) : ex (listed.setIfInBounds i true) j = (decide (j = i) || ex listed j) := by
  unfold ex
  by_cases h : i = j
  · subst h; simp [hi]
  · have h' : ¬ j = i := fun e => h e.symm
    simp [Array.getElem?_setIfInBounds_ne h, h', Array.getD_eq_getD_getElem?]

theorem getD_true_of {listed : Array Bool} {i : Nat} (hi : i < listed.size) (h : listed.getD i true = false) : ex listed i = false := by
  unfold ex
  simp only [Array.getD_eq_getD_getElem?, Array.getElem?_eq_getElem hi, Option.getD_some] at h ⊢
  exact h

theorem ready_spec {ops : Array Oper} {listed : Array Bool} {i : Nat} (hsz : listed.size = ops.size) (h : i ∈ Region.ready .any ops listed) : i < ops.size ∧ ex listed i = false ∧ ∀ p ∈ predsOf ops i, ex listed p = true := by
  simp only [Region.ready, List.mem_filter, List.mem_range, Bool.and_eq_true, Bool.not_eq_true'] at h
  obtain ⟨h1, h2, h3⟩ := h
  refine ⟨h1, getD_true_of (by omega) h2, fun p hp => ?_⟩
  have ho : ops[i]? = some ops[i] := Array.getElem?_eq_getElem h1
  simp only [ho, Option.map_some, Option.getD_some, Array.all_eq_true'] at h3
  simp only [predsOf, ho, List.mem_map, List.mem_filter] at hp
  obtain ⟨e, ⟨he, hb⟩, rfl⟩ := hp
  have := h3 e (by simpa using he)
  rw [hb] at this
  simpa [ex] using this

theorem ready_of {ops : Array Oper} {listed : Array Bool} {i : Nat} (hsz : listed.size = ops.size) (hi : i < ops.size) (hne : ex listed i = false) (hp : ∀ p ∈ predsOf ops i, ex listed p = true) : i ∈ Region.ready .any ops listed := by
  simp only [Region.ready, List.mem_filter, List.mem_range, Bool.and_eq_true, Bool.not_eq_true']
  refine ⟨hi, ?_, ?_⟩
  · unfold ex at hne
    simp only [Array.getD_eq_getD_getElem?, Array.getElem?_eq_getElem (show i < listed.size by omega), Option.getD_some] at hne ⊢
    exact hne
  · have ho : ops[i]? = some ops[i] := Array.getElem?_eq_getElem hi
    simp only [ho, Option.map_some, Option.getD_some, Array.all_eq_true']
    intro e he
    cases hb : Region.binds .any e with
    | false => rfl
    | true =>
      simp only [Bool.not_true, Bool.false_or]
      exact hp e.on (by simp only [predsOf, ho, List.mem_map, List.mem_filter]; exact ⟨e, ⟨by simpa using he, hb⟩, rfl⟩)

section
variable {P : Program} {N B base : Nat} {ops : Array Oper} {C M0 : List Nat} {T0 : List Ent} {listed : Array Bool} {fr : Fr} {σ : AHeap} {φ : BMap} {w : World} {a : Act}

/-- As long as something is left, something is ready. -/
theorem Inv.progress (h : Inv P N B base ops C M0 T0 listed fr σ φ w a) (hno : Region.ready .any ops listed = []) : ∀ i ∈ C, ex listed i = true := by
  have key : ∀ (C2 C1 : List Nat), C = C1 ++ C2 → (∀ i ∈ C1, ex listed i = true) → ∀ i ∈ C2, ex listed i = true := by
    intro C2
    induction C2 with
    | nil => intro C1 _ _ i hi; cases hi
    | cons j C2 ih =>
      intro C1 hC h1
      have hj : ex listed j = true := by
        cases hx : ex listed j with
        | true => rfl
        | false =>
          have hmem : j ∈ Region.ready .any ops listed := by
            refine ready_of h.size (h.bound j (by rw [hC]; simp)) hx fun p hp => ?_
            obtain ⟨hps, hpn⟩ := h.lin C1 j C2 hC p hp
            by_cases hpC : p ∈ C
            · rw [hC, List.mem_append] at hpC
              rcases hpC with hpC | hpC
              · exact h1 p hpC
              · exact absurd hpC hpn
            · exact h.done p hps hpC
          rw [hno] at hmem; cases hmem
      intro i hi
      cases hi with
      | head => exact hj
      | tail _ hi => exact ih (C1 ++ [j]) (by rw [hC]; simp) (fun k hk => by rw [List.mem_append, List.mem_singleton] at hk; rcases hk with hk | rfl; exact h1 k hk; exact hj) i hi
  exact key C [] rfl (fun i hi => by cases hi)

/-- What is done ahead lies in a heap that has it and the heap itself. -/
theorem Inv.sub (h : Inv P N B base ops C M0 T0 listed fr σ φ w a) (hidx : T0.map (·.i) = M0) (hM : ∀ i ∈ M0, i ∈ C) : Sub σ (setT base σ (T0.filter fun e => ex listed e.i)) := by
  intro b x hb
  rw [setT_none]
  · exact hb
  · intro e he _ heq
    have hi : e.i ∈ C := hM _ (by rw [← hidx]; exact List.mem_map.2 ⟨e, (List.mem_filter.1 he).1, rfl⟩)
    rw [heq, h.dead _ hi] at hb; cases hb
end

theorem dst_of_sget {ops : Array Oper} {i : Nat} {o : SOp} (h : sget (ops.toList.map slim) i = some o) : ∃ oo, ops[i]? = some oo ∧ slim oo = o ∧ dstOf ops i = o.dst := by
  rw [sget_get, List.getElem?_map, Option.map_eq_some_iff] at h
  obtain ⟨oo, ho, rfl⟩ := h
  have ho' : ops[i]? = some oo := by simpa using ho
  exact ⟨oo, ho', rfl, by simp [dstOf, ho', slim]⟩

/-- A frame that knows what an operation looks at. -/
theorem Inv.look {P : Program} {N B base : Nat} {ops : Array Oper} {C M0 : List Nat} {T0 : List Ent} {listed : Array Bool} {fr : Fr} {σ : AHeap} {φ : BMap} {w : World} {a : Act} (h : Inv P N B base ops C M0 T0 listed fr σ φ w a)
    {i : Nat} {T1 : List Ent} (h1 : ∀ e ∈ T1, e ∈ T0) (hL : ∀ e ∈ T0, dstOf ops e.i = e.o.dst)
    (hpre : ∀ e ∈ T1, seesB ops i e.i = true → ex listed e.i = true) (hpost : ∀ e ∈ T0, ex listed e.i = true → seesB ops i e.i = true → e ∈ T1) :
    RF φ N (only (putT fr T1) (looksOf ops i)) a.tmps := by
  refine ⟨h.tmps, fun t v hv => ?_⟩
  obtain ⟨ht, hv⟩ := only_get hv
  rcases putT_get hv with ⟨e, he, hd, rfl⟩ | ⟨hno, hv⟩
  · have hs : seesB ops i e.i = true := sees_of ht (by rw [hL e (h1 e he)]; exact hd)
    exact h.slots e (h1 e he) (hpre e he hs) t hd
  · refine h.rest t v hv fun e he hex hd => ?_
    have hs : seesB ops i e.i = true := sees_of ht (by rw [hL e he]; exact hd)
    exact hno e (hpost e he hex hs) hd

theorem put_size (a : Act) (dst : Option Tmp) (v : Value) : (a.put dst v).tmps.size = a.tmps.size := by cases dst <;> simp [Act.put]
theorem put_other {a : Act} {dst : Option Tmp} {v : Value} {t : Nat} (h : dst ≠ some t) : (a.put dst v).tmps[t]? = a.tmps[t]? := by
  cases dst with
  | none => rfl
  | some d =>
    have : d ≠ t := fun e => h (by rw [e])
    simp [Act.put, Array.getElem?_setIfInBounds_ne this]
theorem put_same {a : Act} {d : Tmp} {v : Value} (h : d < a.tmps.size) : (a.put (some d) v).tmps[d]? = some v := by simp [Act.put, h]

theorem mem_idx {T : List Ent} {l : List Nat} (h : T.map (·.i) = l) {e : Ent} (he : e ∈ T) : e.i ∈ l := by rw [← h]; exact List.mem_map.2 ⟨e, he, rfl⟩
theorem idx_mem {T : List Ent} {l : List Nat} (h : T.map (·.i) = l) {i : Nat} (hi : i ∈ l) : ∃ e ∈ T, e.i = i := by rw [← h] at hi; exact List.mem_map.1 hi
theorem idx_inj {T : List Ent} (hn : (T.map (·.i)).Nodup) {e e' : Ent} (he : e ∈ T) (he' : e' ∈ T) (h : e.i = e'.i) : e = e' := by
  induction T with
  | nil => cases he
  | cons x T ih =>
    simp only [List.map_cons, List.nodup_cons] at hn
    cases he with
    | head =>
      cases he' with
      | head => rfl
      | tail _ he' => exact absurd (List.mem_map.2 ⟨e', he', h.symm⟩) hn.1
    | tail _ he =>
      cases he' with
      | head => exact absurd (List.mem_map.2 ⟨e, he, h⟩) hn.1
      | tail _ he' => exact ih hn.2 he he'

/-- AN OPERATION WITHOUT EFFECT, in its turn or ahead of it. -/
theorem Inv.quiet {P : Program} {ro : Option Nat} {N B base : Nat} {ops : Array Oper} {C M0 : List Nat} {T0 : List Ent} {listed : Array Bool} {fr : Fr} {σ : AHeap} {φ : BMap} {w : World} {a : Act} {b : Frame} {rst : List Nat} {k : List Item} {cs : List Frame}
    (h : Inv P N B base ops C M0 T0 listed fr σ φ w a) (hr : nrun P N (ops.toList.map (·.dst)) (ops.toList.map slim) base σ M0 fr = some T0) (hM : ∀ i ∈ M0, i ∈ C) (hMn : M0.Nodup) (hssa : ssaB ops M0 = true) (hdef : ∀ (j : Nat) (o : Oper), ops[j]? = some o → notDefer o = true)
    {i : Nat} (hi : i ∈ M0) (hne : ex listed i = false) (hp : ∀ p ∈ predsOf ops i, ex listed p = true) :
    ∃ a' w' φ', step P (lone (fat b a ro (.inRegion ops (i :: rst) :: k)) cs w) = .next (lone (fat b a' ro (.inRegion ops rst :: k)) cs w') ∧ a'.defers = a.defers ∧
      Inv P N B base ops C M0 T0 (listed.setIfInBounds i true) fr σ φ' w' a' ∧ Step base φ (setT base σ (T0.filter fun e => ex listed e.i)) w φ' (setT base σ (T0.filter fun e => ex (listed.setIfInBounds i true) e.i)) w' := by
  have hidx := nrun_idx hr
  have hTn : (T0.map (·.i)).Nodup := by rw [hidx]; exact hMn
  have hisz : i < ops.size := h.bound i (hM i hi)
  have hils : i < listed.size := by rw [h.size]; exact hisz
  obtain ⟨ent, hent, hei⟩ := idx_mem hidx hi
  obtain ⟨T1, T2, hsplit⟩ := List.append_of_mem hent
  obtain ⟨ho, hv⟩ := nrun_at hr hsplit
  rw [hei] at ho hv
  have hspl : M0 = T1.map (·.i) ++ i :: T2.map (·.i) := by rw [← hidx, hsplit, List.map_append, List.map_cons, hei]
  obtain ⟨ssa2, ssa1⟩ := ssa_spec hssa _ _ _ hspl
  obtain ⟨oo, hoo, hslim, hdst⟩ := dst_of_sget ho
  have hLd : ∀ e ∈ T0, dstOf ops e.i = e.o.dst := fun e he => by
    obtain ⟨U1, U2, hs⟩ := List.append_of_mem he
    obtain ⟨ho', _⟩ := nrun_at hr hs
    obtain ⟨_, _, _, hd⟩ := dst_of_sget ho'; exact hd
  have hlook : RF φ N (only (putT fr T1) (looksOf ops i)) a.tmps := by
    refine h.look (fun e he => by rw [hsplit]; exact List.mem_append_left _ he) hLd (fun e he hs => hp _ ((ssa1 e.i (List.mem_map.2 ⟨e, he, rfl⟩)).2 hs)) (fun e he hex hs => ?_)
    rw [hsplit, List.mem_append, List.mem_cons] at he
    rcases he with he | rfl | he
    · exact he
    · rw [hei, hne] at hex; cases hex
    · have := (ssa2 e.i (List.mem_map.2 ⟨e, he, rfl⟩)).2; rw [this] at hs; cases hs
  have hdd : ent.o.dst = oo.dst := by rw [← hslim]; rfl
  have hgd : ent.o.guard = oo.guard := by rw [← hslim]; rfl
  have hop : ent.o.op = oo.op := by rw [← hslim]; rfl
  have hsub := h.sub hidx hM
  -- the step, the value, and what becomes of heap and world
  have main : dstOk N ent.o.dst = true ∧ ∃ v' w' φ', step P (lone (fat b a ro (.inRegion ops (i :: rst) :: k)) cs w) = .next (lone (fat b (a.put oo.dst v') ro (.inRegion ops rst :: k)) cs w') ∧ RV φ' ent.v v' ∧
      ∃ τ, RH P φ' τ w' B ∧ OStep (base + i) φ (setT base σ (T0.filter fun e => ex listed e.i)) w φ' τ w' ∧ (∀ x, ent.nb = some x → τ.blk (base + i) = some x) ∧ (∀ c y, c ≠ base + i → (setT base σ (T0.filter fun e => ex listed e.i)).blk c = some y → τ.blk c = some y) := by
    unfold nval at hv
    split at hv
    · rename_i hd hw
      injection hv with hv
      have e1 : (Value.tuple #[]) = ent.v := congrArg Prod.fst hv
      have e2 : none = ent.nb := congrArg Prod.snd hv
      refine ⟨hd, undef, w, φ, ?_, by rw [← e1]; exact undef_rv φ, _, h.heap, .refl _ _ _ _, (fun x hx => by rw [← e2] at hx; cases hx), fun c y _ hy => hy⟩
      rw [hgd] at hw
      rw [← only_wanted hoo] at hw
      have hwant := awanted_ok hlook hw
      have := step_skipop (P := P) (b := b) (ro := ro) (a := a) (k := k) (cs := cs) (w := w) (ops := ops) (i := i) (rest := rst) (by simp [hoo, hwant])
      rw [hoo] at this; exact this
    · rename_i hd hw
      split at hv
      · rename_i q hq
        split at hv
        · rename_i v τ hex
          injection hv with hv
          have e1 : v = ent.v := congrArg Prod.fst hv
          have e2 : (cond q none (τ.blk (base + i))) = ent.nb := congrArg Prod.snd hv
          subst e1
          refine ⟨hd, ?_⟩
          rw [hgd] at hw
          rw [← only_wanted hoo] at hw
          have hwant := awanted_ok hlook hw
          rw [hop] at hex hq
          rw [← only_exec hoo] at hex
          have hid : φ (base + i) = none := h.fresh i (hM i hi) hne
          have hlt : base + i < (setT base σ (T0.filter fun e => ex listed e.i)).next := by rw [setT_next]; have := h.next; omega
          have hd' := hdef i oo hoo
          cases q with
          | true =>
            obtain ⟨_, hex'⟩ := quiet_exec (id' := base + i) hq hsub hex
            obtain ⟨v', w', φ', c1, c2, c3, c4⟩ := aexec_ok (o := oo) h.heap hlook hid hlt hex'
            exact ⟨v', w', φ', step_value hoo hwant hd' c1, c2, _, c3, c4, (fun x hx => by rw [← e2] at hx; cases hx), fun c y _ hy => hy⟩
          | false =>
            obtain ⟨x, hτ, hall⟩ := new_exec hq hex
            obtain ⟨v', w', φ', c1, c2, c3, c4⟩ := aexec_ok (o := oo) h.heap hlook hid hlt (hall _)
            refine ⟨v', w', φ', step_value hoo hwant hd' c1, c2, _, c3, c4, fun y hy => ?_, fun c y hc hy => ?_⟩
            · rw [← e2] at hy; simp only [cond] at hy
              rw [hτ, AHeap.set_blk, if_pos rfl] at hy
              rw [AHeap.set_blk, if_pos rfl]; exact hy
            · rw [AHeap.set_blk, if_neg hc]; exact hy
        · cases hv
      · cases hv
    · cases hv
  obtain ⟨hdok, v', w', φ', hstep, hrv, τ, hτ, hos, hnew, hold⟩ := main
  have hexs : ∀ j, ex (listed.setIfInBounds i true) j = (decide (j = i) || ex listed j) := fun j => ex_set hils
  -- the heap that is looked at afterwards
  have hsub' : Sub (setT base σ (T0.filter fun e => ex (listed.setIfInBounds i true) e.i)) τ := by
    intro c y hc
    rcases setT_blk _ _ _ _ hc with ⟨e, he, hce, hnb⟩ | ⟨hno, hc'⟩
    · obtain ⟨he1, he2⟩ := List.mem_filter.1 he
      rw [hexs] at he2
      by_cases hcase : e.i = i
      · have : e = ent := idx_inj hTn he1 hent (by rw [hcase, hei])
        subst this
        rw [hce, hcase]; exact hnew y hnb
      · have he2' : ex listed e.i = true := by simpa [hcase] using he2
        refine hold c y (by omega) ?_
        rw [hce]
        have hsublist : (T0.filter fun e => ex listed e.i).map (·.i) |>.Nodup := by
          refine List.Nodup.sublist ?_ hTn
          exact (List.filter_sublist).map _
        exact setT_mem _ _ e y (List.mem_filter.2 ⟨he1, he2'⟩) hnb hsublist
    · refine hold c y (fun hh => ?_) (hsub c y hc')
      rw [hh, h.dead i (hM i hi)] at hc'; cases hc'
  have hnext : (setT base σ (T0.filter fun e => ex (listed.setIfInBounds i true) e.i)).next = τ.next := by rw [hos.next, setT_next, setT_next]
  refine ⟨a.put oo.dst v', w', φ', hstep, act_put_defers _ _ _, ?_, ?_⟩
  · refine ⟨by simp [h.size], h.nodup, h.bound, fun j hj hjC => by rw [hexs, h.done j hj hjC]; simp, fun j hj hx => ?_, fun j hx p hpj => ?_, h.lin, by rw [put_size]; exact h.tmps, fun e he hx d hd => ?_, fun t u hu hno => ?_, hτ.sub hsub' hnext, fun j hj hx => ?_, h.dead, h.next⟩
    · rw [hexs] at hx
      by_cases hcase : j = i
      · subst hcase; exact hi
      · exact h.inM j hj (by simpa [hcase] using hx)
    · rw [hexs] at hx ⊢
      by_cases hcase : j = i
      · subst hcase; rw [hp p hpj]; simp
      · rw [h.closed j (by simpa [hcase] using hx) p hpj]; simp
    · rw [hexs] at hx
      by_cases hcase : e.i = i
      · have : e = ent := idx_inj hTn he hent (by rw [hcase, hei])
        subst this
        refine ⟨v', ?_, hrv⟩
        rw [← hdd, hd]
        rw [hd] at hdok
        exact put_same (by rw [h.tmps]; simpa [dstOk] using hdok)
      · obtain ⟨u', h1, h2⟩ := h.slots e he (by simpa [hcase] using hx) d hd
        refine ⟨u', ?_, h2.ext hos.ext⟩
        rw [put_other]; · exact h1
        intro hh
        -- the destinations differ
        have hsame : sameDstB ops i e.i = false := by
          rw [hsplit, List.mem_append, List.mem_cons] at he
          rcases he with he | rfl | he
          · have := (ssa1 e.i (List.mem_map.2 ⟨e, he, rfl⟩)).1
            cases hs : sameDstB ops i e.i with
            | false => rfl
            | true =>
              exfalso
              have hde := hLd e (by rw [hsplit]; exact List.mem_append_left _ he)
              rw [same_of (t := d) (by rw [hde]; exact hd) (by rw [hdst, hdd]; exact hh)] at this; cases this
          · exact absurd hei hcase
          · exact (ssa2 e.i (List.mem_map.2 ⟨e, he, rfl⟩)).1
        rw [same_of (t := d) (by rw [hdst, hdd]; exact hh) (by rw [hLd e he]; exact hd)] at hsame; cases hsame
    · have hne' : oo.dst ≠ some t := by
        rw [← hdd]; exact hno ent hent (by rw [hexs, hei]; simp)
      obtain ⟨u', h1, h2⟩ := h.rest t u hu (fun e he hx => hno e he (by rw [hexs, hx]; simp))
      exact ⟨u', by rw [put_other hne']; exact h1, h2.ext hos.ext⟩
    · rw [hexs] at hx
      simp only [Bool.or_eq_false_iff, decide_eq_false_iff_not] at hx
      rw [hos.old _ (by omega)]; exact h.fresh j hj hx.2
  · refine ⟨hos.ext, fun c hc => hos.old c (by omega), by rw [setT_next, setT_next]; exact Nat.le_refl _, hos.os, hos.tape, hos.output, hos.size, hos.kept, fun g hg ho => hos.own g hg (ho.sub hsub'), fun c hc hd => ?_, fun c x hx hxr => hos.ro c x (hsub' c x hx) hxr⟩
    have hτc := hos.dead c (by omega) hd
    cases hx : (setT base σ (T0.filter fun e => ex (listed.setIfInBounds i true) e.i)).blk c with
    | none => rfl
    | some y => rw [hsub' c y hx] at hτc; cases hτc

end Go.Abs

/- THE ABSTRACT MACHINE, part P: the rule for a region whose order is drawn. -/
namespace Go.Abs
open Go

theorem Sub.refl (σ : AHeap) : Sub σ σ := fun _ _ h => h

theorem steps_call {P : Program} {b : Frame} {a : Act} {ro : Option Nat} {ops : Array Oper} {i : Nat} {rest : List Nat} {k : List Item} {cs : List Frame} {w : World} {o : Oper} {B : Nat} {φ : BMap} {σ : AHeap} {fr : Fr} {N : Nat} {g : FuncId} {vs : List Value} {Q : Value → AHeap → Prop}
    (ho : ops[i]? = some o) (hw : Region.wanted o (yielded ops a.tmps) = true) (hr : RH P φ σ w B) (hf : RF φ N fr a.tmps) (hc : acallee fr o.op = some (g, vs)) (hb : hasBody P g = true) (h : ACalls P g vs σ Q) :
    ∃ v v' σ' φ' w', Q v σ' ∧ RV φ' v v' ∧ RH P φ' σ' w' B ∧ Step σ.next φ σ w φ' σ' w' ∧ Steps P (lone (fat b a ro (.inRegion ops (i :: rest) :: k)) cs w) (lone (fat b (a.put o.dst v') ro (.inRegion ops rest :: k)) cs w') := by
  unfold acallee at hc
  split at hc
  case h_2 => cases hc
  rename_i fo args ts hop
  split at hc
  case h_2 => cases hc
  rename_i kf xs ys us e1 e2
  cases hc
  obtain ⟨xs', ys', hfv, hx, hy⟩ := (aeval_rv hf e1).func_inv
  have hargs := aevals_rv hf e2
  have hrun : (execOp a.eval o).run P w = .ok (.enter g (xs'.toList ++ args.toList.map a.eval ++ ys'.toList).toArray) w := by
    unfold hasBody at hb
    split at hb
    · rename_i fn hfn
      simp only [Bool.and_eq_true, bne_iff_ne, ne_eq] at hb
      have hnone : fn.body.isNone = false := by cases hbd : fn.body <;> simp_all
      have e : xs' ++ (args.map a.eval) ++ ys' = (xs'.toList ++ args.toList.map a.eval ++ ys'.toList).toArray := by apply Array.ext'; simp
      simp only [execOp, hop, Sem.run_bind, resolve, hfv, Deferred.ofValue, Sem.run_pure, Result.andThen_ok, invoke, callFunc, run_program, hfn, hb.2, hnone, if_false, Bool.false_eq_true, beq_iff_eq]
      rw [e]
    · cases hb
  have hg := stepG_opR (P := P) (b := b) (ro := ro) (a := a) (k := k) (cs := cs) (w := w) (rest := rest) ho hw (by simp [notDefer, hop])
  have henter : step P (lone (fat b a ro (.inRegion ops (i :: rest) :: k)) cs w) = .next (lone (Frame.enter P g (xs'.toList ++ args.toList.map a.eval ++ ys'.toList).toArray .normal) (fat b a ro (.inRegion ops (i :: rest) :: k) :: cs) w) :=
    step_lone_go (by rw [hg]; simp [stepG.apply, hrun, fat, Frame.at])
  obtain ⟨v, v', σ', φ', w1, w', frm, a1, a2, a3, a4, a5, a6⟩ := h B φ w _ (fat b a ro (.inRegion ops (i :: rest) :: k) :: cs) hr ((hx.append hargs).append hy)
  have hfin : (fat b a ro (.inRegion ops (i :: rest) :: k)).finish v' = fat b (a.put o.dst v') ro (.inRegion ops rest :: k) := by rw [fat_finish, ho]; rfl
  have hleave := a6.step (fat b a ro (.inRegion ops (i :: rest) :: k)) cs
  rw [hfin] at hleave
  exact ⟨v, v', σ', φ', w', a1, a2, a3, a4, (Steps.one henter).trans (a5.trans (.one hleave))⟩

/-- AN OPERATION WITH AN EFFECT: the next stage begins. -/
theorem Inv.effect {P : Program} {ro : Option Nat} {N B base : Nat} {ops : Array Oper} {A M C' M1 Af : List Nat} {e : Nat} {S : List Stage} {pend TA TM : List Ent} {listed : Array Bool} {fr : Fr} {σ : AHeap} {φ : BMap} {w : World} {a : Act} {b : Frame} {rst : List Nat} {k : List Item} {cs : List Frame} {o : SOp} {Q : Value → AHeap → Prop}
    (h : Inv P N B base ops (A ++ e :: C') (A ++ M) (TA ++ TM) listed fr σ φ w a) (hrA : nrun P N (ops.toList.map (·.dst)) (ops.toList.map slim) base σ A fr = some TA) (hrM : nrun P N (ops.toList.map (·.dst)) (ops.toList.map slim) base σ M (putT fr TA) = some TM)
    (hMC : ∀ m ∈ M, m ∈ C') (hMn : (A ++ M).Nodup) (hdst : ∀ j ∈ M, sameDstB ops e j = false ∧ seesB ops e j = false) (hdef : ∀ (j : Nat) (o : Oper), ops[j]? = some o → notDefer o = true)
    (hAx : ∀ j ∈ A, ex listed j = true) (hne : ex listed e = false) (hp : ∀ p ∈ predsOf ops e, ex listed p = true)
    (ho : sget (ops.toList.map slim) e = some o) (hE : Exec P N (ops.toList.map (·.dst)) (base + e) o (putT fr TA) (setT base σ TA) Q)
    (hM1 : ∀ m ∈ M1, m ∈ C') (hM1n : M1.Nodup) (hM1M : ∀ m ∈ M, m ∈ M1)
    (hnext : ∀ v σ1, Q v σ1 → ∃ T1, nrun P N (ops.toList.map (·.dst)) (ops.toList.map slim) base σ1 M1 (adst (putT fr TA) o.dst v) = some T1 ∧ agree TM T1) :
    ∃ v σ1 T1 a' w' φ', Q v σ1 ∧ nrun P N (ops.toList.map (·.dst)) (ops.toList.map slim) base σ1 M1 (adst (putT fr TA) o.dst v) = some T1 ∧
      Steps P (lone (fat b a ro (.inRegion ops (e :: rst) :: k)) cs w) (lone (fat b a' ro (.inRegion ops rst :: k)) cs w') ∧ a'.defers = a.defers ∧
      Inv P N B base ops C' M1 T1 (listed.setIfInBounds e true) (adst (putT fr TA) o.dst v) σ1 φ' w' a' ∧
      Step base φ (setT base σ ((TA ++ TM).filter fun e => ex listed e.i)) w φ' (setT base σ1 (T1.filter fun x => ex (listed.setIfInBounds e true) x.i)) w' := by
  have hidxA := nrun_idx hrA
  have hidxM := nrun_idx hrM
  have hidx : (TA ++ TM).map (·.i) = A ++ M := by rw [List.map_append, hidxA, hidxM]
  have hTn : ((TA ++ TM).map (·.i)).Nodup := by rw [hidx]; exact hMn
  obtain ⟨oo, hoo, hslim, hdo⟩ := dst_of_sget ho
  have hdd : o.dst = oo.dst := by rw [← hslim]; rfl
  have hgd : o.guard = oo.guard := by rw [← hslim]; rfl
  have hop : o.op = oo.op := by rw [← hslim]; rfl
  have hesz : e < ops.size := h.bound e (by simp)
  have hels : e < listed.size := by rw [h.size]; exact hesz
  have heC : e ∉ C' := by
    have := h.nodup
    rw [List.nodup_append] at this
    exact (List.nodup_cons.1 this.2.1).1
  have hAC : ∀ j ∈ A, j ∉ e :: C' := fun j hj hh => by
    have := h.nodup
    rw [List.nodup_append] at this
    exact this.2.2 j hj j hh rfl
  have hCn : C'.Nodup := by
    have := h.nodup
    rw [List.nodup_append] at this
    exact (List.nodup_cons.1 this.2.1).2
  have hMall : ∀ i ∈ A ++ M, i ∈ A ++ e :: C' := fun i hi => by
    rw [List.mem_append] at hi ⊢
    rcases hi with hi | hi
    · exact .inl hi
    · exact .inr (List.mem_cons_of_mem _ (hMC i hi))
  have hLd : ∀ x ∈ TA ++ TM, dstOf ops x.i = x.o.dst := fun x hx => by
    obtain ⟨U1, U2, hs⟩ := List.append_of_mem hx
    obtain ⟨ho', _⟩ := nrun_at (nrun_append hrA hrM) hs
    obtain ⟨_, _, _, hd⟩ := dst_of_sget ho'; exact hd
  have hlook : RF φ N (only (putT fr TA) (looksOf ops e)) a.tmps := by
    refine h.look (fun x hx => List.mem_append_left _ hx) hLd (fun x hx _ => hAx _ (mem_idx hidxA hx)) (fun x hx hex hs => ?_)
    rw [List.mem_append] at hx
    rcases hx with hx | hx
    · exact hx
    · have := (hdst x.i (mem_idx hidxM hx)).2; rw [this] at hs; cases hs
  -- the heap of what comes before
  have hfn : ((((TA ++ TM).filter fun e => ex listed e.i)).map (·.i)).Nodup := List.Nodup.sublist ((List.filter_sublist).map _) hTn
  have hsubA : Sub (setT base σ TA) (setT base σ ((TA ++ TM).filter fun e => ex listed e.i)) := by
    intro c y hc
    rcases setT_blk _ _ _ _ hc with ⟨x, hx, hce, hnb⟩ | ⟨hno, hc'⟩
    · rw [hce]
      exact setT_mem _ _ x y (List.mem_filter.2 ⟨List.mem_append_left _ hx, hAx _ (mem_idx hidxA hx)⟩) hnb hfn
    · exact h.sub hidx hMall c y hc'
  have hnA : (setT base σ TA).next = (setT base σ ((TA ++ TM).filter fun e => ex listed e.i)).next := by rw [setT_next, setT_next]
  have hRA : RH P φ (setT base σ TA) w B := h.heap.sub hsubA hnA
  have hid : φ (base + e) = none := h.fresh e (by simp) hne
  have hlt : base + e < (setT base σ TA).next := by rw [setT_next]; have := h.next; omega
  have hdeadA : ∀ i ∈ C', (setT base σ TA).blk (base + i) = none := fun i hi => by
    rw [setT_none]
    · exact h.dead i (by simp [hi])
    · intro x hx _ heq
      have hxa := mem_idx hidxA hx
      have : x.i = i := by omega
      rw [this] at hxa
      exact hAC i hxa (List.mem_cons_of_mem _ hi)
  have hni : ∀ i ∈ C', base + i ≠ base + e := fun i hi hh => heC (by
    have : i = e := by omega
    rw [← this]; exact hi)
  -- the operation itself
  have main : dstOk N o.dst = true ∧ ∃ v v' σ1 φ' w', Q v σ1 ∧ RV φ' v v' ∧ RH P φ' σ1 w' B ∧ Step base φ (setT base σ TA) w φ' σ1 w' ∧ (∀ i ∈ C', φ' (base + i) = φ (base + i)) ∧ (∀ i ∈ C', σ1.blk (base + i) = none) ∧
      Steps P (lone (fat b a ro (.inRegion ops (e :: rst) :: k)) cs w) (lone (fat b (a.put oo.dst v') ro (.inRegion ops rst :: k)) cs w') := by
    obtain ⟨hdok, hcase⟩ := hE
    refine ⟨hdok, ?_⟩
    rcases hcase with ⟨hw, hq⟩ | ⟨hw, hq⟩
    · rw [hgd, ← only_wanted hoo] at hw
      have hwant := awanted_ok hlook hw
      have hs := step_skipop (P := P) (b := b) (ro := ro) (a := a) (k := k) (cs := cs) (w := w) (ops := ops) (i := e) (rest := rst) (by simp [hoo, hwant])
      rw [hoo] at hs
      exact ⟨_, undef, _, φ, w, hq, undef_rv φ, hRA, .refl _ _ _ _, fun _ _ => rfl, hdeadA, .one hs⟩
    · rw [hgd, ← only_wanted hoo] at hw
      have hwant := awanted_ok hlook hw
      rcases hq with ⟨v, σ1, hex, hq⟩ | ⟨g, vs, hc, hb, hcall⟩
      · rw [hop, ← only_exec hoo] at hex
        obtain ⟨v', w', φ', c1, c2, c3, c4⟩ := aexec_ok (o := oo) hRA hlook hid hlt hex
        refine ⟨v, v', σ1, φ', w', hq, c2, c3, ⟨c4.ext, fun c hc => c4.old c (by omega), by rw [c4.next]; exact Nat.le_refl _, c4.os, c4.tape, c4.output, c4.size, c4.kept, c4.own, fun c hc hd => c4.dead c (by omega) hd, c4.ro⟩, fun i hi => c4.old _ (hni i hi), fun i hi => c4.dead _ (hni i hi) (hdeadA i hi), .one (step_value hoo hwant (hdef e oo hoo) c1)⟩
      · rw [hop, ← only_callee hoo] at hc
        obtain ⟨v, v', σ1, φ', w', c1, c2, c3, c4, c5⟩ := steps_call (ro := ro) (b := b) (rest := rst) (k := k) (cs := cs) hoo hwant hRA hlook hc hb hcall
        have hbn : base ≤ (setT base σ TA).next := by rw [setT_next]; have := h.next; omega
        have hin : ∀ i ∈ C', base + i < (setT base σ TA).next := fun i hi => by rw [setT_next]; have := h.next; have := h.bound i (by simp [hi]); omega
        exact ⟨v, v', σ1, φ', w', c1, c2, c3, c4.mono hbn, fun i hi => c4.old _ (hin i hi), fun i hi => c4.dead _ (hin i hi) (hdeadA i hi), c5⟩
  obtain ⟨hdok, v, v', σ1, φ', w', hQ, hrv, hR1, hst, hφC, hdead1, hsteps⟩ := main
  obtain ⟨T1, hT1, hag⟩ := hnext v σ1 hQ
  have hidx1 := nrun_idx hT1
  have hT1n : (T1.map (·.i)).Nodup := by rw [hidx1]; exact hM1n
  have hexs : ∀ j, ex (listed.setIfInBounds e true) j = (decide (j = e) || ex listed j) := fun j => ex_set hels
  -- an entry of the next stage that is done already
  have early : ∀ x ∈ T1, ex (listed.setIfInBounds e true) x.i = true → x.i ∈ C' ∧ ex listed x.i = true ∧ ∃ y ∈ TM, y.i = x.i ∧ y.v = x.v ∧ y.nb = x.nb ∧ y.o = x.o := by
    intro x hx hex
    have hxC := hM1 _ (mem_idx hidx1 hx)
    have hxe : x.i ≠ e := fun hh => heC (by rw [← hh]; exact hxC)
    have hexl : ex listed x.i = true := by rw [hexs] at hex; simpa [hxe] using hex
    have hin := h.inM x.i (by simp [hxC]) hexl
    rw [List.mem_append] at hin
    have hxM : x.i ∈ M := by
      rcases hin with hin | hin
      · exact absurd (List.mem_cons_of_mem _ hxC) (hAC _ hin)
      · exact hin
    obtain ⟨y, hy, hyi⟩ := idx_mem hidxM hxM
    obtain ⟨z, hz, z1, z2, z3⟩ := hag y hy
    have : z = x := idx_inj hT1n hz hx (by rw [z1, hyi])
    subst this
    have hyo : y.o = z.o := by
      obtain ⟨U1, U2, hs⟩ := List.append_of_mem hy
      obtain ⟨ho1, _⟩ := nrun_at hrM hs
      obtain ⟨V1, V2, hs'⟩ := List.append_of_mem hz
      obtain ⟨ho2, _⟩ := nrun_at hT1 hs'
      rw [hyi] at ho1; rw [ho1] at ho2; exact Option.some.inj ho2
    exact ⟨hxC, hexl, y, hy, hyi, z2.symm, z3.symm, hyo⟩
  have hjoin := h.heap.join hsubA hst hR1
  have hsub1 : Sub (setT base σ1 (T1.filter fun x => ex (listed.setIfInBounds e true) x.i)) (join (setT base σ TA) (setT base σ ((TA ++ TM).filter fun e => ex listed e.i)) σ1) := by
    intro c z hc
    rcases setT_blk _ _ _ _ hc with ⟨x, hx, hce, hnb⟩ | ⟨hno, hc'⟩
    · obtain ⟨hx1, hx2⟩ := List.mem_filter.1 hx
      obtain ⟨hxC, hexl, y, hy, hyi, hyv, hynb, _⟩ := early x hx1 hx2
      rw [hce]
      simp only [join, hdead1 _ hxC, hdeadA _ hxC]
      rw [← hyi]
      exact setT_mem _ _ y z (List.mem_filter.2 ⟨List.mem_append_right _ hy, by rw [hyi]; exact hexl⟩) (by rw [hynb]; exact hnb) hfn
    · simp only [join, hc']
  have hnx : (setT base σ1 (T1.filter fun x => ex (listed.setIfInBounds e true) x.i)).next = (join (setT base σ TA) (setT base σ ((TA ++ TM).filter fun e => ex listed e.i)) σ1).next := by rw [setT_next]; rfl
  have hstep1 := hst.join (n0 := base) h.heap hsubA hnA (Nat.le_refl _)
  refine ⟨v, σ1, T1, a.put oo.dst v', w', φ', hQ, hT1, hsteps, act_put_defers _ _ _, ?_, ?_⟩
  · refine ⟨by simp [h.size], hCn, fun i hi => h.bound i (by simp [hi]), fun i hi hiC => ?_, fun i hi hx => ?_, fun j hx p hpj => ?_, fun C1 i C2 hC p hpp => ?_, by rw [put_size]; exact h.tmps, fun x hx hex d hd => ?_, fun t u hu hno => ?_, hjoin.sub hsub1 hnx, fun i hi hx => ?_, hdead1, ?_⟩
    · rw [hexs]
      by_cases hcase : i = e
      · simp [hcase]
      · by_cases hA : i ∈ A
        · rw [hAx i hA]; simp
        · rw [h.done i hi (by simp [hA, hcase, hiC])]; simp
    · rw [hexs] at hx
      have hie : i ≠ e := fun hh => heC (by rw [← hh]; exact hi)
      have hexl : ex listed i = true := by simpa [hie] using hx
      have hin := h.inM i (by simp [hi]) hexl
      rw [List.mem_append] at hin
      rcases hin with hin | hin
      · exact absurd (List.mem_cons_of_mem _ hi) (hAC _ hin)
      · exact hM1M i hin
    · rw [hexs] at hx ⊢
      by_cases hcase : j = e
      · subst hcase; rw [hp p hpj]; simp
      · rw [h.closed j (by simpa [hcase] using hx) p hpj]; simp
    · exact h.lin (A ++ e :: C1) i C2 (by rw [hC]; simp) p hpp
    · obtain ⟨hxC, hexl, y, hy, hyi, hyv, _, hyo⟩ := early x hx hex
      obtain ⟨u', h1, h2⟩ := h.slots y (List.mem_append_right _ hy) (by rw [hyi]; exact hexl) d (by rw [hyo]; exact hd)
      refine ⟨u', ?_, by rw [← hyv]; exact h2.ext hst.ext⟩
      rw [put_other]; · exact h1
      intro hh
      have := (hdst y.i (mem_idx hidxM hy)).1
      rw [same_of (t := d) (by rw [hdo, hdd]; exact hh) (by rw [hLd y (List.mem_append_right _ hy), hyo]; exact hd)] at this; cases this
    · -- a slot that nothing done ahead has written
      have viaA : ∀ {t u}, aget (putT fr TA) t = some u → (∀ x ∈ T1, ex (listed.setIfInBounds e true) x.i = true → x.o.dst ≠ some t) → ∃ v', a.tmps[t]? = some v' ∧ RV φ u v' := by
        intro t u hu hno
        rcases putT_get hu with ⟨x, hx, hd, rfl⟩ | ⟨hnoA, hu⟩
        · exact h.slots x (List.mem_append_left _ hx) (hAx _ (mem_idx hidxA hx)) t hd
        · refine h.rest t u hu fun x hx hex hd => ?_
          rw [List.mem_append] at hx
          rcases hx with hx | hx
          · exact hnoA x hx hd
          · have hxM := mem_idx hidxM hx
            obtain ⟨z, hz, z1, z2, z3⟩ := hag x hx
            have hxz : ex (listed.setIfInBounds e true) z.i = true := by rw [hexs, z1, hex]; simp
            obtain ⟨_, _, y, hy, hyi, _, _, hyo⟩ := early z hz hxz
            have : y = x := idx_inj (by rw [hidxM]; exact (List.nodup_append.1 hMn).2.1) hy hx (by rw [hyi, z1])
            subst this
            exact hno z hz hxz (by rw [← hyo]; exact hd)
      cases hod : o.dst with
      | none =>
        rw [hod] at hu
        simp only [adst] at hu
        obtain ⟨u', h1, h2⟩ := viaA hu hno
        exact ⟨u', by rw [put_other (by rw [← hdd, hod]; simp)]; exact h1, h2.ext hst.ext⟩
      | some d =>
        rw [hod] at hu hdok
        simp only [adst, aget_aput] at hu
        split at hu
        · rename_i hdt; subst hdt; cases hu
          exact ⟨v', by rw [← hdd, hod]; exact put_same (by rw [h.tmps]; simpa [dstOk] using hdok), hrv⟩
        · rename_i hdt
          obtain ⟨u', h1, h2⟩ := viaA hu hno
          exact ⟨u', by rw [put_other (by rw [← hdd, hod]; simpa using hdt)]; exact h1, h2.ext hst.ext⟩
    · rw [hexs] at hx
      simp only [Bool.or_eq_false_iff, decide_eq_false_iff_not] at hx
      rw [hφC i hi]; exact h.fresh i (by simp [hi]) hx.2
    · have := hst.next; rw [setT_next] at this; have := h.next; omega
  · refine ⟨hstep1.ext, hstep1.old, by rw [hnx]; exact hstep1.next, hstep1.os, hstep1.tape, hstep1.output, hstep1.size, hstep1.kept, fun g hg ho => hstep1.own g hg (ho.sub hsub1), fun c hc hd => ?_, fun c x hx hxr => hstep1.ro c x (hsub1 c x hx) hxr⟩
    have hjc := hstep1.dead c hc hd
    cases hx : (setT base σ1 (T1.filter fun x => ex (listed.setIfInBounds e true) x.i)).blk c with
    | none => rfl
    | some y => rw [hsub1 c y hx] at hjc; cases hjc


theorem nrun_split {P : Program} {N : Nat} {gds : List (Option Tmp)} {L : List SOp} {base : Nat} {σ : AHeap} {fr : Fr} {A M : List Nat} {TA TM : List Ent} (hA : nrun P N gds L base σ A fr = some TA) (hM : nrun P N gds L base σ M (putT fr TA) = some TM) :
    nrun P N gds L base σ (A ++ M) fr = some (TA ++ TM) := nrun_append hA hM

/-- The table of a stage. -/
theorem DGo.table {P : Program} {N : Nat} {gds : List (Option Tmp)} {L : List SOp} {base : Nat} {K : Fr → AHeap → Prop} {pend : List Ent} {S : List Stage} {Af : List Nat} {fr : Fr} {σ : AHeap} (h : DGo P N gds L base K pend S Af fr σ) :
    ∃ T, nrun P N gds L base σ (stageList S Af) fr = some T ∧ agree pend T := by
  cases S with
  | nil => obtain ⟨T, h1, h2, _⟩ := h; exact ⟨T, h1, h2⟩
  | cons s S => obtain ⟨A, e, M⟩ := s; obtain ⟨TA, TM, o, h1, h2, h3, _⟩ := h; exact ⟨TA ++ TM, nrun_append h1 h2, h3⟩

theorem stageList_sub {ops : Array Oper} : ∀ {S : List Stage} {Af : List Nat}, stagesB ops S Af = true → ∀ i ∈ stageList S Af, i ∈ flat S Af
  | [], Af, _, i, hi => hi
  | (A, e, M) :: S, Af, h, i, hi => by
    simp only [stagesB, stageB, Bool.and_eq_true, List.all_eq_true, List.contains_eq_mem, decide_eq_true_eq] at h
    simp only [stageList, flat, List.mem_append, List.mem_cons] at hi ⊢
    rcases hi with hi | hi
    · exact .inl hi
    · exact .inr (.inr (h.1.1.1.1.1.2 i hi))

theorem nodup_append_of {l m : List Nat} (h1 : l.Nodup) (h2 : m.Nodup) (h3 : ∀ i ∈ l, i ∉ m) : (l ++ m).Nodup :=
  List.nodup_append.2 ⟨h1, h2, fun a ha b hb e => h3 a ha (e ▸ hb)⟩

theorem filter_decr {C : List Nat} {listed : Array Bool} {i : Nat} (hn : C.Nodup) (hi : i ∈ C) (hx : ex listed i = false) (hs : i < listed.size) :
    (C.filter fun j => !ex (listed.setIfInBounds i true) j).length + 1 ≤ (C.filter fun j => !ex listed j).length := by
  induction C with
  | nil => cases hi
  | cons j C ih =>
    have hle : ∀ D : List Nat, (D.filter fun j => !ex (listed.setIfInBounds i true) j).length ≤ (D.filter fun j => !ex listed j).length := by
      intro D
      induction D with
      | nil => simp
      | cons d D ihD =>
        simp only [List.filter_cons, ex_set hs]
        by_cases hd : d = i
        · subst hd; simp [hx]; simp only [ex_set hs] at ihD; simp at ihD; omega
        · simp only [hd, decide_false, Bool.false_or]
          split
          · simp only [List.length_cons]; simp only [ex_set hs] at ihD; omega
          · simp only [ex_set hs] at ihD; omega
    rw [List.nodup_cons] at hn
    simp only [List.filter_cons]
    cases hi with
    | head =>
      have h1 : ex (listed.setIfInBounds i true) i = true := by rw [ex_set hs]; simp
      rw [h1, hx]
      simp only [Bool.not_true, Bool.not_false, if_true, Bool.false_eq_true, if_false, List.length_cons]
      have := hle C; omega
    | tail _ hi =>
      have hji : j ≠ i := fun h => hn.1 (h ▸ hi)
      have h1 : ex (listed.setIfInBounds i true) j = ex listed j := by rw [ex_set hs]; simp [hji]
      rw [h1]
      have := ih hn.2 hi
      split
      · simp only [List.length_cons]; omega
      · exact this

theorem linearise_step (ops : Array Oper) (n t : Nat) (listed : Array Bool) :
    Region.linearise.go .any ops (n + 1) t listed [] = match (Region.ready .any ops listed)[t % (Region.ready .any ops listed).length]? with
      | some i => i :: Region.linearise.go .any ops n (t / (Region.ready .any ops listed).length) (listed.setIfInBounds i true) []
      | none => [] := by
  simp only [Region.linearise.go]
  change (match (Region.ready .any ops listed)[t % (Region.ready .any ops listed).length]? with
      | some i => Region.linearise.go .any ops n (t / (Region.ready .any ops listed).length) (listed.setIfInBounds i true) [i]
      | none => [].reverse) = _
  split
  · rename_i i _; rw [linearise_go_acc]; simp
  · rfl

/-- WHATEVER THE ORDER. -/
theorem sim {P : Program} {ro : Ro} {f : FuncId} {N : Nat} {R : Value → AHeap → Prop} {k : List Item} {B base : Nat} {ops : Array Oper} {b : Frame} {cs : List Frame} (hbf : b.fn = f) (hbk : b.kind = .normal)
    (hdef : ∀ (j : Nat) (o : Oper), ops[j]? = some o → notDefer o = true) : ∀ (n t : Nat) (listed : Array Bool) (pend T0 : List Ent) (S : List Stage) (Af : List Nat) (fr : Fr) (σ : AHeap) (φ : BMap) (w : World) (a : Act),
    stagesB ops S Af = true → nrun P N (ops.toList.map (·.dst)) (ops.toList.map slim) base σ (stageList S Af) fr = some T0 → (stageList S Af).Nodup →
    DGo P N (ops.toList.map (·.dst)) (ops.toList.map slim) base (fun fr σ => AGo P ro f N k R fr σ) pend S Af fr σ →
    Inv P N B base ops (flat S Af) (stageList S Af) T0 listed fr σ φ w a → RoOk ro φ (setT base σ (T0.filter fun e => ex listed e.i)) w a.defers → ((flat S Af).filter fun j => !ex listed j).length ≤ n →
    ∃ v v' σ' φ' w1 w' frm, R v σ' ∧ RV φ' v v' ∧ RH P φ' σ' w' B ∧ Step base φ (setT base σ (T0.filter fun e => ex listed e.i)) w φ' σ' w' ∧
      Steps P (lone (fat b a ro.l (.inRegion ops (Region.linearise.go .any ops n t listed []) :: k)) cs w) (lone frm cs w1) ∧ Fin P ro f frm w1 v' w' := by
  -- all is done: the region ends
  have fin : ∀ (listed : Array Bool) (pend T0 : List Ent) (S : List Stage) (Af : List Nat) (fr : Fr) (σ : AHeap) (φ : BMap) (w : World) (a : Act),
      stagesB ops S Af = true → nrun P N (ops.toList.map (·.dst)) (ops.toList.map slim) base σ (stageList S Af) fr = some T0 →
      DGo P N (ops.toList.map (·.dst)) (ops.toList.map slim) base (fun fr σ => AGo P ro f N k R fr σ) pend S Af fr σ →
      Inv P N B base ops (flat S Af) (stageList S Af) T0 listed fr σ φ w a → RoOk ro φ (setT base σ (T0.filter fun e => ex listed e.i)) w a.defers → (∀ i ∈ flat S Af, ex listed i = true) →
      ∃ v v' σ' φ' w1 w' frm, R v σ' ∧ RV φ' v v' ∧ RH P φ' σ' w' B ∧ Step base φ (setT base σ (T0.filter fun e => ex listed e.i)) w φ' σ' w' ∧
        Steps P (lone (fat b a ro.l (.inRegion ops [] :: k)) cs w) (lone frm cs w1) ∧ Fin P ro f frm w1 v' w' := by
    intro listed pend T0 S Af fr σ φ w a hst hT hgo hinv had hall
    cases S with
    | cons s S =>
      obtain ⟨A, e, M⟩ := s
      exfalso
      have he : e ∈ flat ((A, e, M) :: S) Af := by simp [flat]
      have hin := hinv.inM e he (hall e he)
      have hnd := hinv.nodup
      simp only [flat] at hnd
      rw [List.nodup_append] at hnd
      simp only [stageList, List.mem_append] at hin
      rcases hin with hin | hin
      · exact hnd.2.2 e hin e (by simp) rfl
      · simp only [stagesB, stageB, Bool.and_eq_true, List.all_eq_true, List.contains_eq_mem, decide_eq_true_eq] at hst
        exact (List.nodup_cons.1 hnd.2.1).1 (hst.1.1.1.1.1.2 e hin)
    | nil =>
      obtain ⟨T, h1, h2, hK⟩ := hgo
      rw [show stageList [] Af = Af from rfl, h1] at hT
      cases hT
      have hidx := nrun_idx h1
      have hfil : (T0.filter fun e => ex listed e.i) = T0 := List.filter_eq_self.2 fun x hx => hall _ (mem_idx hidx hx)
      have hheap := hinv.heap
      rw [hfil] at hheap had ⊢
      have hRF : RF φ N (putT fr T0) a.tmps := by
        refine ⟨hinv.tmps, fun t v hv => ?_⟩
        rcases putT_get hv with ⟨x, hx, hd, rfl⟩ | ⟨hno, hv⟩
        · exact hinv.slots x hx (hall _ (mem_idx hidx hx)) t hd
        · exact hinv.rest t v hv fun x hx _ => hno x hx
      have hend : step P (lone (fat b a ro.l (.inRegion ops [] :: k)) cs w) = .next (lone (fat b a ro.l k) cs w) := step_lone_go (by simp [stepG, stepG.exec, Frame.at, fat])
      obtain ⟨v, v', σ', φ', w1, w', frm, a1, a2, a3, a4, a5, a6⟩ := hK B φ w a b cs hheap hRF had hbf hbk
      exact ⟨v, v', σ', φ', w1, w', frm, a1, a2, a3, a4.mono (by rw [setT_next]; have := hinv.next; omega), (Steps.one hend).trans a5, a6⟩
  intro n
  induction n with
  | zero =>
    intro t listed pend T0 S Af fr σ φ w a hst hT hnd hgo hinv had hn
    have hall : ∀ i ∈ flat S Af, ex listed i = true := fun i hi => by
      cases hx : ex listed i with
      | true => rfl
      | false =>
        have : i ∈ (flat S Af).filter fun j => !ex listed j := List.mem_filter.2 ⟨hi, by simp [hx]⟩
        rw [List.length_eq_zero_iff.1 (Nat.le_zero.1 hn)] at this; cases this
    exact fin listed pend T0 S Af fr σ φ w a hst hT hgo hinv had hall
  | succ n ih =>
    intro t listed pend T0 S Af fr σ φ w a hst hT hnd hgo hinv had hn
    rw [linearise_step]
    cases hrd : (Region.ready .any ops listed)[t % (Region.ready .any ops listed).length]? with
    | none =>
      have hnil : Region.ready .any ops listed = [] := by
        cases hr : Region.ready .any ops listed with
        | nil => rfl
        | cons x xs =>
          rw [hr] at hrd
          have hlt : t % (x :: xs).length < (x :: xs).length := Nat.mod_lt _ (by simp)
          rw [List.getElem?_eq_getElem hlt] at hrd; cases hrd
      exact fin listed pend T0 S Af fr σ φ w a hst hT hgo hinv had (hinv.progress hnil)
    | some i =>
      simp only
      obtain ⟨hisz, hne, hp⟩ := ready_spec hinv.size (List.mem_of_getElem? hrd)
      have hiC : i ∈ flat S Af := by
        by_cases hc : i ∈ flat S Af
        · exact hc
        · rw [hinv.done i hisz hc] at hne; cases hne
      have hdecr := filter_decr hinv.nodup hiC hne (by rw [hinv.size]; exact hisz)
      by_cases hiM : i ∈ stageList S Af
      · -- without effect
        have hssa : ssaB ops (stageList S Af) = true := by
          cases S with
          | nil => exact hst
          | cons s S =>
            obtain ⟨A, e, M⟩ := s
            simp only [stagesB, stageB, Bool.and_eq_true] at hst
            exact hst.1.1.1.2
        obtain ⟨a', w', φ', h1, h2, h3, h4⟩ := hinv.quiet (ro := ro.l) (b := b) (rst := Region.linearise.go .any ops n (t / (Region.ready .any ops listed).length) (listed.setIfInBounds i true) []) (k := k) (cs := cs) hT (stageList_sub hst) hnd hssa hdef hiM hne hp
        obtain ⟨v, v', σ', φ2, w1, w2, frm, c1, c2, c3, c4, c5, c6⟩ := ih (t / (Region.ready .any ops listed).length) (listed.setIfInBounds i true) pend T0 S Af fr σ φ' w' a' hst hT hnd hgo h3 (by rw [h2]; exact had.step h4) (by omega)
        exact ⟨v, v', σ', φ2, w1, w2, frm, c1, c2, c3, h4.trans c4 (Nat.le_refl _), (Steps.one h1).trans c5, c6⟩
      · -- the effect whose turn it is
        cases S with
        | nil => exact absurd hiC hiM
        | cons s S =>
          obtain ⟨A, e, M⟩ := s
          have hst0 := hst
          simp only [stagesB, stageB, Bool.and_eq_true, List.all_eq_true, List.contains_eq_mem, decide_eq_true_eq, Bool.or_eq_true, List.any_eq_true, beq_iff_eq, Bool.not_eq_true', decide_eq_false_iff_not] at hst
          obtain ⟨⟨⟨⟨⟨⟨hanc, hMr⟩, hearly⟩, hssa⟩, hdst⟩, hMnext⟩, hst'⟩ := hst
          have hnodup := hinv.nodup
          simp only [flat] at hnodup
          rw [List.nodup_append] at hnodup
          have hnd' := hnodup.2.1
          rw [List.nodup_cons] at hnd'
          have hie : i = e := by
            simp only [flat, List.mem_append, List.mem_cons] at hiC
            simp only [stageList, List.mem_append, not_or] at hiM
            rcases hiC with hc | hc | hc
            · exact absurd hc hiM.1
            · exact hc
            · exfalso
              rcases hearly i hc with hm | ⟨p, hpp, hpc⟩
              · exact hiM.2 hm
              · have hpx := hp p hpp
                rcases hpc with rfl | ⟨hpr, hpm⟩
                · have := hinv.inM p (by simp [flat]) hpx
                  simp only [stageList, List.mem_append] at this
                  rcases this with h | h
                  · exact hnodup.2.2 p h p (by simp) rfl
                  · exact hnd'.1 (hMr p h)
                · have := hinv.inM p (by simp [flat, hpr]) hpx
                  simp only [stageList, List.mem_append] at this
                  rcases this with h | h
                  · exact hnodup.2.2 p h p (by simp [hpr]) rfl
                  · exact hpm h
          subst hie
          obtain ⟨TA, TM, o, d1, d2, d3, d4, d5⟩ := hgo
          have hT0 : T0 = TA ++ TM := by
            have := nrun_append d1 d2
            rw [show stageList ((A, i, M) :: S) Af = A ++ M from rfl, this] at hT
            exact (Option.some.inj hT).symm
          subst hT0
          have hAx : ∀ j ∈ A, ex listed j = true := anc_spec (ex := fun j => ex listed j = true) (fun j hj p hpj => hinv.closed j hj p hpj) hanc hp
          have hM1n : (stageList S Af).Nodup := by
            have hsub := stageList_sub hst'
            cases S with
            | nil => exact hnd'.2
            | cons s' S' =>
              obtain ⟨A', e', M'⟩ := s'
              have h0 := hnd'.2
              simp only [flat] at h0
              rw [List.nodup_append] at h0
              simp only [stagesB, stageB, Bool.and_eq_true, List.all_eq_true, List.contains_eq_mem, decide_eq_true_eq] at hst'
              have hM'n : M'.Nodup := by
                have hs' := hst'.1.1.1.2
                have : ∀ l : List Nat, ssaB ops l = true → True := fun _ _ => trivial
                exact nodup_of (by simpa using hst'.1.2.2)
              exact nodup_append_of h0.1 hM'n fun j hj hjm => h0.2.2 j hj j (List.mem_cons_of_mem _ (hst'.1.1.1.1.1.2 j hjm)) rfl
          obtain ⟨v, σ1, T1, a', w', φ', hQ, hT1, hsteps, hdf, hinv', hstep'⟩ := hinv.effect (ro := ro.l) (b := b) (M1 := stageList S Af) (C' := flat S Af) (Af := Af) (S := S) (pend := pend) (rst := Region.linearise.go .any ops n (t / (Region.ready .any ops listed).length) (listed.setIfInBounds i true) []) (k := k) (cs := cs) d1 d2 hMr hnd
            hdst hdef hAx hne hp d4 d5 (stageList_sub hst') hM1n hMnext.1 (fun v σ1 hq => hq.table)
          obtain ⟨v2, v', σ', φ2, w1, w2, frm, c1, c2, c3, c4, c5, c6⟩ := ih (t / (Region.ready .any ops listed).length) (listed.setIfInBounds i true) TM T1 S Af (adst (putT fr TA) o.dst v) σ1 φ' w' a' hst' hT1 hM1n hQ hinv' (by rw [hdf]; exact had.step hstep') (by
              have hxi : ex (listed.setIfInBounds i true) i = true := by rw [ex_set (by rw [hinv.size]; exact hisz)]; simp
              simp only [flat, List.filter_append, List.filter_cons, List.length_append, hxi] at hdecr hn
              simp only [Bool.not_true, Bool.false_eq_true, if_false] at hdecr
              try simp only [List.filter_append, List.length_append] at hdecr
              try simp only [List.filter_append, List.length_append] at hn
              omega)
          exact ⟨v2, v', σ', φ2, w1, w2, frm, c1, c2, c3, hstep'.trans c4 (Nat.le_refl _), hsteps.trans c5, c6⟩

end Go.Abs

/- THE ABSTRACT MACHINE, part Q: the rule for a drawn region; heaps that grow; what a proof about a loop needs. -/
namespace Go.Abs
open Go

theorem RH.drew {P : Program} {φ : BMap} {σ : AHeap} {w : World} {B : Nat} (h : RH P φ σ w B) : RH P φ σ w.drew B := ⟨h.base, h.fresh, h.dom, h.inj⟩

theorem Step.drew (φ : BMap) (σ : AHeap) (w : World) (n : Nat) : Step σ.next φ σ w φ (σ.bump n) w.drew :=
  ⟨.refl _, fun _ _ => rfl, by simp, rfl, rfl, rfl, Nat.le_refl _, fun _ _ _ => rfl, fun _ _ h => h, fun _ _ h => h, fun _ _ h _ => h⟩

section
variable {P : Program} {ro : Ro} {f : FuncId} {N : Nat} {R : Value → AHeap → Prop} {fr : Fr} {σ : AHeap} {k : List Item}

theorem AGo.draw {id : Nat} {l : List Oper} {gds : List (Option Tmp)} {L : List SOp} (S : List Stage) (Af : List Nat) (hm : P.follows .mixedOrders = true) (hB : drawB l.toArray S Af = true) (hg : l.map (·.dst) = gds) (hL : l.map slim = L)
    (h : DGo P N gds L σ.next (fun fr σ => AGo P ro f N k R fr σ) [] S Af fr (σ.bump l.length)) : AGo P ro f N (.code (.region id l.toArray true) :: k) R fr σ := by
  intro B φ w a b cs h1 h2 h3 h4 h5
  subst hg; subst hL
  simp only [drawB, Bool.and_eq_true, List.all_eq_true, List.mem_range, List.contains_eq_mem, decide_eq_true_eq] at hB
  obtain ⟨⟨⟨⟨⟨⟨hfull, hnd⟩, hbound⟩, hlin⟩, hst⟩, hlen⟩, hdef⟩ := hB
  have hnd' := nodup_of hnd
  have hdefs : ∀ (j : Nat) (o : Oper), l.toArray[j]? = some o → notDefer o = true := fun j o ho => by
    have := Array.all_eq_true'.1 hdef o (Array.mem_of_getElem? ho); exact this
  obtain ⟨T0, hT0, _⟩ := h.table
  have hMn : (stageList S Af).Nodup := by
    cases S with
    | nil => exact hnd'
    | cons s S =>
      obtain ⟨A, e, M⟩ := s
      simp only [flat] at hnd'
      rw [List.nodup_append] at hnd'
      simp only [stagesB, stageB, Bool.and_eq_true, List.all_eq_true, List.contains_eq_mem, decide_eq_true_eq] at hst
      exact nodup_append_of hnd'.1 (nodup_of (by simpa using hst.1.2.2)) fun j hj hjm => hnd'.2.2 j hj j (List.mem_cons_of_mem _ (hst.1.1.1.1.1.2 j hjm)) rfl
  have hexF : ∀ i, ex (Array.replicate l.toArray.size false) i = false := fun i => by
    unfold ex
    rw [Array.getD_eq_getD_getElem?, Array.getElem?_replicate]
    split <;> rfl
  have hfil : (T0.filter fun e => ex (Array.replicate l.toArray.size false) e.i) = [] := List.filter_eq_nil_iff.2 fun x _ => by rw [hexF]; simp
  have hinv : Inv P N B σ.next l.toArray (flat S Af) (stageList S Af) T0 (Array.replicate l.toArray.size false) fr (σ.bump l.length) φ w.drew a := by
    refine ⟨by simp, hnd', fun i hi => hbound i hi, fun i hi hiC => absurd (hfull i (by simpa using hi)) hiC, fun i _ hx => by (rw [hexF] at hx; cases hx), fun i hx => by (rw [hexF] at hx; cases hx), fun C1 i C2 hC p hp => ?_, h2.size,
      fun e _ hx => by (rw [hexF] at hx; cases hx), fun t v hv _ => h2.get t v hv, ?_, fun i _ _ => h1.fresh _ (Nat.le_add_right _ _), fun i _ => ?_, by simp⟩
    · rcases lin_spec hlin C1 i C2 hC p hp with hd | hc
      · cases hd
      · refine ⟨hbound p (by rw [hC]; simp [hc]), fun hh => ?_⟩
        rw [hC, List.nodup_append] at hnd'
        exact hnd'.2.2 p hc p hh rfl
    · rw [hfil]; exact (h1.bump _).drew
    · cases hx : σ.blk (σ.next + i) with
      | none => exact hx
      | some x =>
        obtain ⟨p, hp, _⟩ := h1.dom _ _ hx
        rw [h1.fresh _ (Nat.le_add_right _ _)] at hp; cases hp
  have hcount : ((flat S Af).filter fun j => !ex (Array.replicate l.toArray.size false) j).length ≤ l.toArray.size := by
    have hle : ((flat S Af).filter fun j => !ex (Array.replicate l.toArray.size false) j).length ≤ (flat S Af).length := List.length_filter_le _ _
    exact Nat.le_trans hle hlen
  have htape := sim (ro := ro) (f := f) (R := R) (k := k) (b := b) (cs := cs) h4 h5 hdefs l.toArray.size (w.tape w.drawn (.order b.fn id)) (Array.replicate l.toArray.size false) [] T0 S Af fr (σ.bump l.length) φ w.drew a hst (by simpa using hT0) hMn (by simpa using h) hinv (by rw [hfil]; exact h3.step (Step.drew φ σ w l.length)) hcount
  rw [hfil] at htape
  obtain ⟨v, v', σ', φ', w1, w', frm, a1, a2, a3, a4, a5, a6⟩ := htape
  have hstep : step P (lone (fat b a ro.l (.code (.region id l.toArray true) :: k)) cs w) = .next (lone (fat b a ro.l (.inRegion l.toArray (Region.linearise.go .any l.toArray l.toArray.size (w.tape w.drawn (.order b.fn id)) (Array.replicate l.toArray.size false) []) :: k)) cs { w with drawn := w.drawn + 1 }) := by
    refine step_lone_go ?_
    simp [stepG, stepG.exec, Frame.at, fat, choose, Sem.run, Question.forced, Question.cut, Region.schedule, hm, Region.linearise]
  exact ⟨v, v', σ', φ', w1, w', frm, a1, a2, a3, (Step.drew φ σ w l.length).trans a4 (Nat.le_refl _), (Steps.one hstep).trans a5, a6⟩
end

end Go.Abs

