/- THE ABSTRACT MACHINE, part F: copy, clear, make, build, addresses, slices. -/
import Derived.Test.YtehahpnpandppaaAbsE
set_option linter.unusedVariables false
set_option linter.unusedSimpArgs false
namespace Go.Abs
open Go

theorem under_of {P : Program} {t : TypeId} {T : ATy} (h : ty P t = some T) : ∃ d i, P.underlying t = some d ∧ P.info? t = some i ∧ T.k = akind d ∧ T.size = i.size ∧ T.bytes = i.bytes ∧ T.zero = i.zero := by
  obtain ⟨d, i, a, b, rfl⟩ := ty_spec h
  exact ⟨d, i, a, b, rfl, rfl, rfl, rfl⟩

theorem slice_of {P : Program} {t e : TypeId} {a b : Nat} {z : Option Value} (h : ty P t = some ⟨.slice e, a, b, z⟩) : P.underlying t = some (.slice e) := tk_slice (by simp [tk, h])
theorem array_of {P : Program} {t e : TypeId} {n a b : Nat} {z : Option Value} (h : ty P t = some ⟨.array n e, a, b, z⟩) : P.underlying t = some (.array n e) := tk_array (by simp [tk, h])
theorem string_of {P : Program} {t : TypeId} {a b : Nat} {z : Option Value} (h : ty P t = some ⟨.string, a, b, z⟩) : P.underlying t = some .string := tk_string (by simp [tk, h])
theorem map_of {P : Program} {t k e : TypeId} {a b : Nat} {z : Option Value} (h : ty P t = some ⟨.map k e, a, b, z⟩) : P.underlying t = some (.map k e) := by
  obtain ⟨d, i, hd, hi, hk, _⟩ := under_of h
  rw [hd, akind_map hk.symm]
theorem struct_of {P : Program} {t : TypeId} {fs : List (Nat × TypeId)} {a b : Nat} {z : Option Value} (h : ty P t = some ⟨.struct fs, a, b, z⟩) : ∃ gs, P.underlying t = some (.struct gs) ∧ fs = gs.toList.map fun f => (f.offset, f.type) := by
  obtain ⟨d, i, hd, hi, hk, _⟩ := under_of h
  obtain ⟨gs, rfl, hf⟩ := akind_struct hk.symm
  exact ⟨gs, hd, hf⟩
theorem size_of {P : Program} {t : TypeId} {T : ATy} (h : ty P t = some T) (w : World) : (sizeOf t).run P w = .ok T.size w := by
  obtain ⟨d, i, _, hi, _, hs, _⟩ := under_of h
  rw [hs]; exact run_sizeOf hi w
theorem zero_of {P : Program} {t : TypeId} {T : ATy} {z : Value} (h : ty P t = some T) (hz : T.zero = some z) (w : World) : (zeroValue t).run P w = .ok z w := by
  obtain ⟨d, i, _, hi, _, _, _, h0⟩ := under_of h
  exact run_zeroValue hi (by rw [← h0]; exact hz) w

/-! ### copy -/
theorem acopy_ok {P : Program} {B id : Nat} {φ : BMap} {σ σ' : AHeap} {w : World} {tD tX rt : TypeId} {d d' x x' u : Value} (hr : RH P φ σ w B)
    (h : acopy P σ tD tX d x = some (u, σ')) (hd : RV φ d d') (hx : RV φ x x') :
    ∃ u' w', (Builtin.copy_ #[tD, tX] rt #[d', x']).run P w = .ok u' w' ∧ RV φ u u' ∧ RH P φ σ' w' B ∧ OStep id φ σ w φ σ' w' := by
  unfold acopy at h
  split at h
  case h_2 => cases h
  rename_i e _ _ _ hS
  split at h
  case h_2 => cases h
  rename_i E hE
  split at h
  case h_2 => cases h
  rename_i b off dl _ b' off' sl _
  split at h
  case h_2 => cases h
  rename_i cs e' cs' e'' rw' hb hb'
  split at h
  case isFalse => cases h
  rename_i hlen
  obtain ⟨hl1, hl2⟩ := hlen
  cases h
  obtain ⟨p, c', hφ, rfl, h1, h2, h3⟩ := hd.slice_inv
  obtain ⟨p', c'', hφ', rfl, h1', h2', h3'⟩ := hx.slice_inv
  obtain ⟨q, hq, hok⟩ := hr.dom b' _ hb'
  rw [hφ'] at hq; cases hq
  obtain ⟨xs, a1, a2, a3, a4⟩ := cells_at hok hl2
  obtain ⟨w', s1, s2, s3⟩ := store_cells (id := id) (off := off) hr hb hφ a1 a3 (by rw [a1.1, a2]; exact hl1)
  refine ⟨.int .i64 (Nat.min sl dl : Nat), w', ?_, .int _ _, s2, s3⟩
  have hc := run_firstCells_some (P := P) w E.size (Nat.min sl dl) ⟨p'.g, p'.o + off', none⟩ sl c'' xs a2 a4
  simp [Builtin.copy_, run_underlying (slice_of hS), Builtin.lenOf, size_of hE, hc, s1, goInt]

theorem toArray_map_range (n : Nat) (f : Nat → Value) : (Array.range n).map f = ((List.range n).map f).toArray := by
  apply Array.ext'; simp

theorem zeros_map (z : Array Value) : ∀ n : Nat, (Array.range (n * z.size)).map (fun i => z[i % z.size]!) = ((List.replicate n z.toList).flatten).toArray
  | 0 => by simp
  | n + 1 => by
    have ih := zeros_map z n
    rw [toArray_map_range] at ih ⊢
    congr 1
    have ih' := congrArg Array.toList ih
    simp only at ih'
    rw [Nat.add_mul, Nat.one_mul, List.range_add, List.map_append, ih', List.replicate_succ', List.flatten_append]
    congr 1
    simp only [List.map_map, List.flatten_cons, List.flatten_nil, List.append_nil]
    apply List.ext_getElem
    · simp
    · intro i hi1 hi2
      simp only [List.length_map, List.length_range] at hi1
      simp only [List.getElem_map, List.getElem_range, Function.comp, Nat.mul_add_mod_self_right, Nat.mod_eq_of_lt hi1]
      rw [getElem!_pos z i hi1]; simp

theorem zerosL_length (z : Value) (n : Nat) : (zerosL z n).length = n * z.cells.size := by simp [zerosL]
theorem zerosL_closed {z : Value} (h : closedV z = true) (n : Nat) : (zerosL z n).all closedCell = true := by
  simp only [zerosL, List.all_flatten, List.all_replicate, closed_cells h]
  simp

theorem zeroCells_eq (z : Value) (n : Nat) : Builtin.zeroCells z.cells n = (zerosL z n).toArray := by
  unfold Builtin.zeroCells zerosL; exact zeros_map z.cells n

theorem aclear_ok {P : Program} {B id : Nat} {φ : BMap} {σ σ' : AHeap} {w : World} {t rt : TypeId} {x x' : Value} {tx : Array TypeId} (hr : RH P φ σ w B) (ht : tx[0]? = some t)
    (h : aclear P σ t x = some σ') (hx : RV φ x x') (hty : (P.underlying t).isSome = true) :
    ∃ w', (Builtin.clear_ tx rt #[x']).run P w = .ok (.tuple #[]) w' ∧ RH P φ σ' w' B ∧ OStep id φ σ w φ σ' w' := by
  obtain ⟨dd, hdd⟩ := Option.isSome_iff_exists.1 hty
  unfold aclear at h
  split at h
  · cases h; cases hx.nil_inv
    exact ⟨w, by simp [Builtin.clear_, ht, run_underlying hdd], hr, .refl _ _ _ _⟩
  · rename_i a c
    cases h
    have hx' : ∃ a' c', x' = .slice a' 0 c' := by cases hx; exact ⟨_, _, rfl⟩
    obtain ⟨a', c', rfl⟩ := hx'
    refine ⟨w, ?_, hr, .refl _ _ _ _⟩
    cases a' <;> simp [Builtin.clear_, ht, run_underlying hdd]
  · rename_i b off n c hn
    split at h
    case h_2 => cases h
    rename_i e _ _ _ hS
    split at h
    case h_2 => cases h
    rename_i ek s by' z cs e' hE hb
    split at h
    case isFalse => cases h
    rename_i hc
    obtain ⟨hz, hzs, hlen⟩ := hc
    cases h
    obtain ⟨p, c', hφ, rfl, h1, h2, h3⟩ := hx.slice_inv
    obtain ⟨w', s1, s2, s3⟩ := store_cells (id := id) (off := off) hr hb hφ (RVs.closed (zerosL_closed hz n)) (ones_closed (zerosL_closed hz n)) (by rw [zerosL_length, hzs]; exact hlen)
    refine ⟨w', ?_, s2, s3⟩
    have hn0 : n ≠ 0 := fun e0 => by subst e0; first | exact hn rfl | exact hn _ rfl | exact hn _ _ rfl | exact hn _ rfl rfl
    cases n with
    | zero => exact absurd rfl hn0
    | succ n => simp [Builtin.clear_, ht, run_underlying (slice_of hS), zero_of hE rfl, zeroCells_eq, s1]
  · cases h

/-! ### make -/
theorem amakeSlice_ok {P : Program} {B id : Nat} {φ : BMap} {σ σ' : AHeap} {w : World} {t : TypeId} {l l' c c' u : Value} (hr : RH P φ σ w B) (hid : φ id = none) (hlt : id < σ.next)
    (h : amakeSlice P σ id t l c = some (u, σ')) (hl : RV φ l l') (hc : RV φ c c') :
    ∃ u' w' φ', (Instr.makeSlice t l' c').run P w = .ok u' w' ∧ RV φ' u u' ∧ RH P φ' σ' w' B ∧ OStep id φ σ w φ' σ' w' := by
  unfold amakeSlice at h
  split at h
  case h_2 => cases h
  rename_i e _ _ _ _ l _ c hS
  split at h
  case h_2 => cases h
  rename_i ek s bytes z hE
  split at h
  case isFalse => cases h
  rename_i hcond
  obtain ⟨hz, hzs, h0, h1, h2, h3⟩ := hcond
  cases h
  cases hl.int_inv; cases hc.int_inv
  have hw : ∀ n : Int, 0 ≤ n → n ≤ 9223372036854775807 → IntKind.i64.wrap n = n := fun n a b => by
    exact IntWalk.i64_in _ (by omega)
  have htsz : tsz P e = some s := by simp [tsz, hE]
  have hsize : ((zerosL z c.toNat).toArray : Array Value).size = c.toNat * s := by simp [zerosL_length, hzs]
  obtain ⟨a, b⟩ := hr.cells (w1 := w) (cs := zerosL z c.toNat) (cur := (zerosL z c.toNat).toArray) hid hlt rfl rfl rfl rfl htsz (ones_closed (zerosL_closed hz _))
    (fun j u hu => ⟨u, by simpa using hu, RV.closedCell (List.all_eq_true.1 (zerosL_closed hz c.toNat) u (List.mem_of_getElem? hu))⟩) (by simp)
  obtain ⟨d, i, hd, hi, _, hs', hb', _⟩ := under_of hE
  simp only at hs' hb'
  refine ⟨.slice (some ⟨w.heap.size, 0, none⟩) l.toNat c.toNat, _, _, ?_, ?_, a, b⟩
  · have hnot : ¬ (281474976710656 < (bytes : Int) * c) := by omega
    have hnot' : ¬ (281474976710656 < (i.bytes : Int) * c) := by rw [← hb']; exact hnot
    have hbs : (decide (c < 0) || decide (281474976710656 < (i.bytes : Int) * c)) = false := by simp; omega
    simp only [Instr.makeSlice, Sem.run_bind, run_under (slice_of hS), Result.andThen_ok, asInt, asIntOf, Sem.run_pure, typeInfo, run_program, hi, hw l h0 (by omega), hw c (by omega) h2]
    rw [if_neg (by simp; omega)]
    simp only [Sem.run_bind, run_askRoom, Result.andThen_ok, size_of hE]
    by_cases h00 : c.toNat * s = 0
    · have hzl : zerosL z c.toNat = [] := List.length_eq_zero_iff.1 (by rw [zerosL_length, hzs, h00])
      simp only [h00, if_true, Sem.run_bind, Sem.run_pure, Result.andThen_ok, newRow, run_newObj, hzl]
      have hemp : ∀ f : Nat → Value, Array.map f (Array.range 0) = #[] := fun f => by simp
      rw [hemp]; rfl
    · have hcells : (Array.range (c.toNat * s)).map (fun k => z.cells[k % z.cells.size]!) = (zerosL z c.toNat).toArray := by
        unfold zerosL
        rw [← zeros_map, hzs]
      simp only [h00, if_false, Sem.run_bind, zero_of hE rfl, Result.andThen_ok, newRow, run_newObj, Sem.run_pure, hcells]
      rfl
  · exact RV.slice (p := ⟨w.heap.size, 0, _, s⟩) (lay_same _ _ _) (by omega) (Nat.le_refl _) (.inl rfl)

end Go.Abs
