/- THE ABSTRACT MACHINE, part G: addresses, slices, numbers, maps, what is built. -/
import Derived.Test.YtehahpnpandppaaAbsF
set_option linter.unusedVariables false
set_option linter.unusedSimpArgs false
namespace Go.Abs
open Go

theorem RV.ptr_add {φ : BMap} {b off n : Nat} {p : Pl} (h : φ b = some p) : RV φ (.pointer (some ⟨b, off + n, none⟩)) (.pointer (some ((⟨p.g, p.o + off, none⟩ : Addr).add n))) := by
  rw [Addr.add_lit, Nat.add_assoc]; exact .ptr h

theorem aindexAddr_ok {P : Program} {φ : BMap} {w : World} {t : TypeId} {x x' ix ix' v : Value} (h : aindexAddr P t x ix = some v) (hx : RV φ x x') (hi : RV φ ix ix') :
    ∃ v', (Instr.indexAt t x' ix').run P w = .ok v' w ∧ RV φ v v' := by
  unfold aindexAddr at h
  split at h
  case h_2 => cases h
  rename_i k i
  cases hi.int_inv
  split at h
  · rename_i e _ _ _ b off len _ hT
    split at h
    case h_2 => cases h
    rename_i E hE
    split at h
    case isFalse => cases h
    rename_i hb
    cases h
    obtain ⟨p, c', hφ, rfl, h1, h2, h3⟩ := hx.slice_inv
    refine ⟨.pointer (some ((⟨p.g, p.o + off, none⟩ : Addr).add (i.toNat * E.size))), ?_, RV.ptr_add hφ⟩
    simp [Instr.indexAt, asIntOf, run_underlying (slice_of hT), hb, size_of hE]
  · rename_i n e _ _ _ b off hT
    split at h
    case h_2 => cases h
    rename_i E hE
    split at h
    case isFalse => cases h
    rename_i hb
    cases h
    obtain ⟨p, hφ, rfl⟩ := hx.ptr_inv
    refine ⟨.pointer (some ((⟨p.g, p.o + off, none⟩ : Addr).add (i.toNat * E.size))), ?_, RV.ptr_add hφ⟩
    simp [Instr.indexAt, asIntOf, run_underlying (array_of hT), Instr.sureAddr, hb, size_of hE]
  · cases h

theorem tsz_of {P : Program} {t : TypeId} {s : Nat} (h : tsz P t = some s) (w : World) : (sizeOf t).run P w = .ok s w := by
  unfold tsz at h
  split at h
  · rename_i T hT; cases h; exact size_of hT w
  · cases h

theorem afieldAddr_ok {P : Program} {φ : BMap} {w : World} {t : TypeId} {x x' v : Value} {f : Nat} (h : afieldAddr P t x f = some v) (hx : RV φ x x') :
    ∃ v', (Instr.fieldAt t x' f).run P w = .ok v' w ∧ RV φ v v' := by
  unfold afieldAddr at h
  split at h
  case h_2 => cases h
  rename_i fs _ _ _ b off hT
  split at h
  case h_2 => cases h
  rename_i o u hf
  split at h
  case h_2 => cases h
  rename_i s hs
  split at h
  case isTrue => cases h
  rename_i h0
  cases h
  obtain ⟨p, hφ, rfl⟩ := hx.ptr_inv
  obtain ⟨gs, hg, rfl⟩ := struct_of hT
  rw [List.getElem?_map, Option.map_eq_some_iff] at hf
  obtain ⟨fd, hfd, heq⟩ := hf
  cases heq
  have hfd' : gs[f]? = some fd := by simpa using hfd
  refine ⟨.pointer (some ((⟨p.g, p.o + off, none⟩ : Addr).add fd.offset)), ?_, RV.ptr_add hφ⟩
  simp [Instr.fieldAt, run_underlying hg, hfd', Instr.sureAddr, fieldPlace, tsz_of hs, h0]

theorem part_plain {P : Program} {t : TypeId} {T : ATy} (hT : ty P t = some T) (ha : T.agg = false) {cs : Array Value} {o : Nat} {v : Value} (hv : cs[o]? = some v) (w : World) : (part t cs o).run P w = .ok v w := by
  have := run_isAgg hT w
  rw [ha] at this
  simp [part, this, hv]
theorem part_agg {P : Program} {t : TypeId} {T : ATy} (hT : ty P t = some T) (ha : T.agg = true) {cs : Array Value} {o : Nat} (w : World) : (part t cs o).run P w = .ok (.agg ((cs.toList.drop o).take T.size).toArray) w := by
  have := run_isAgg hT w
  rw [ha] at this
  simp only [part, Sem.run_bind, this, Result.andThen_ok, if_true, size_of hT, Sem.run_pure]
  congr 2
  apply Array.ext'
  simp [List.extract]

theorem aindex_ok {P : Program} {φ : BMap} {w : World} {t : TypeId} {x x' ix ix' v : Value} (h : aindex P t x ix = some v) (hx : RV φ x x') (hi : RV φ ix ix') :
    ∃ v', (Instr.index t x' ix').run P w = .ok v' w ∧ RV φ v v' := by
  unfold aindex at h
  split at h
  case h_2 => cases h
  rename_i k i
  cases hi.int_inv
  split at h
  · rename_i _ _ _ s hT
    split at h
    case isFalse => cases h
    rename_i h0
    rw [Option.map_eq_some_iff] at h
    obtain ⟨b, hb, rfl⟩ := h
    cases hx.string_inv
    refine ⟨_, ?_, .int _ _⟩
    simp [Instr.index, asIntOf, run_underlying (string_of hT), h0, hb]
  · rename_i n e _ _ _ cs hT
    split at h
    case h_2 => cases h
    rename_i E hE
    split at h
    case isTrue => cases h
    rename_i ha
    split at h
    case isFalse => cases h
    rename_i hb
    obtain ⟨cs', rfl, h1, h2⟩ := hx.agg_inv
    obtain ⟨v', a, b⟩ := h1.get (i := i.toNat * E.size) (v := v) (by simpa using h)
    refine ⟨v', ?_, b⟩
    have hp := part_plain hE (by simpa using ha) (cs := cs') (o := i.toNat * E.size) (v := v') (by simpa using a) w
    simp [Instr.index, asIntOf, run_underlying (array_of hT), hb, size_of hE, hp]
  · cases h

theorem afield_ok {P : Program} {φ : BMap} {w : World} {t : TypeId} {x x' v : Value} {f : Nat} (h : afield P t x f = some v) (hx : RV φ x x') :
    ∃ v', (Instr.field t x' f).run P w = .ok v' w ∧ RV φ v v' := by
  unfold afield at h
  split at h
  case h_2 => cases h
  rename_i fs _ _ _ cs hT
  split at h
  case h_2 => cases h
  rename_i o u hf
  split at h
  case h_2 => cases h
  rename_i U hU
  obtain ⟨cs', rfl, h1, h2⟩ := hx.agg_inv
  obtain ⟨gs, hg, rfl⟩ := struct_of hT
  rw [List.getElem?_map, Option.map_eq_some_iff] at hf
  obtain ⟨fd, hfd, heq⟩ := hf
  cases heq
  have hfd' : gs[f]? = some fd := by simpa using hfd
  split at h
  · rename_i ha
    cases h
    refine ⟨_, ?_, RV.agg_of ((h1.drop fd.offset).take U.size) ((h2.drop _).take _)⟩
    simp [Instr.field, run_underlying hg, hfd', asAgg, part_agg hU ha]
  · rename_i ha
    obtain ⟨v', a, b⟩ := h1.get (i := fd.offset) (v := v) (by simpa using h)
    refine ⟨v', ?_, b⟩
    simp [Instr.field, run_underlying hg, hfd', asAgg, part_plain hU (by simpa using ha) (cs := cs') (v := v') (by simpa using a)]

/-! ### Slices -/
theorem abound_run {P : Program} {φ : BMap} {w : World} {d top n : Nat} {v v' : Option Value} {c : BoundsCode} (h : abound d top v = some n) (hv : (v = none ∧ v' = none) ∨ ∃ u u', v = some u ∧ v' = some u' ∧ RV φ u u') :
    (v' = none ∧ n = d) ∨ ∃ u', v' = some u' ∧ (Instr.sliceBound u' top c).run P w = .ok n w ∧ n ≤ top := by
  rcases hv with ⟨rfl, rfl⟩ | ⟨u, u', rfl, rfl, hu⟩
  · simp only [abound, Option.some.injEq] at h; exact .inl ⟨rfl, h.symm⟩
  · right
    refine ⟨u', rfl, ?_⟩
    unfold abound at h
    split at h
    · rename_i he; cases he
    · rename_i k i he
      cases he
      cases hu.int_inv
      split at h
      · rename_i hi
        cases h
        exact ⟨by simp [Instr.sliceBound, asIntOf, hi], by omega⟩
      · cases h
    · cases h

theorem sliceBounds_run {P : Program} {φ : BMap} {w : World} {s : Bool} {len cap h l : Nat} {lo lo' hi hi' : Option Value} (h1 : abound len cap hi = some h) (h2 : abound 0 h lo = some l)
    (hlo : (lo = none ∧ lo' = none) ∨ ∃ u u', lo = some u ∧ lo' = some u' ∧ RV φ u u') (hhi : (hi = none ∧ hi' = none) ∨ ∃ u u', hi = some u ∧ hi' = some u' ∧ RV φ u u') :
    (Instr.sliceBounds s len cap lo' hi' none).run P w = .ok (l, h, cap) w ∧ (lo = none → l = 0) := by
  have a1 := abound_run (P := P) (w := w) (c := if s then .sliceAcap else .sliceAlen) h1 hhi
  have a2 := abound_run (P := P) (w := w) (c := .sliceB) h2 hlo
  constructor
  · unfold Instr.sliceBounds
    rcases a1 with ⟨rfl, rfl⟩ | ⟨u', rfl, hr, _⟩ <;> rcases a2 with ⟨rfl, rfl⟩ | ⟨t', rfl, hr', _⟩ <;> simp [*]
  · rintro rfl
    rcases hlo with ⟨_, rfl⟩ | ⟨_, _, h, _⟩
    · simp only [abound, Option.some.injEq] at h2; exact h2.symm
    · cases h

theorem abound_le {d top n : Nat} {v : Option Value} (h : abound d top v = some n) (hd : d ≤ top) : n ≤ top := by
  unfold abound at h
  split at h
  · cases h; exact hd
  · split at h
    · cases h; omega
    · cases h
  · cases h

theorem aslice_ok {P : Program} {φ : BMap} {w : World} {t : TypeId} {x x' v : Value} {lo lo' hi hi' : Option Value} (h : aslice P t x lo hi = some v) (hx : RV φ x x')
    (hlo : (lo = none ∧ lo' = none) ∨ ∃ u u', lo = some u ∧ lo' = some u' ∧ RV φ u u') (hhi : (hi = none ∧ hi' = none) ∨ ∃ u u', hi = some u ∧ hi' = some u' ∧ RV φ u u') :
    ∃ v', (Instr.sliceAt t x' lo' hi' none).run P w = .ok v' w ∧ RV φ v v' := by
  unfold aslice at h
  split at h
  · rename_i _ _ _ s hT
    split at h
    case h_2 => cases h
    rename_i hh h1
    split at h
    case h_2 => cases h
    rename_i l h2
    cases h
    cases hx.string_inv
    refine ⟨_, ?_, .string _⟩
    have := (sliceBounds_run (P := P) (w := w) (s := false) h1 h2 hlo hhi).1
    simp [Instr.sliceAt, run_underlying (string_of hT), Instr.slice, this]
  · rename_i e _ _ _ hT
    split at h
    case h_2 => cases h
    rename_i E hh hE h1
    split at h
    case h_2 => cases h
    rename_i l h2
    cases h
    cases hx.nil_inv
    have := (sliceBounds_run (P := P) (w := w) (s := true) h1 h2 hlo hhi).1
    have e1 : hh = 0 := by have := abound_le h1 (Nat.le_refl _); omega
    have e2 : l = 0 := by have := abound_le h2 (Nat.zero_le _); omega
    subst e1; subst e2
    exact ⟨.slice none 0 0, by simp [Instr.sliceAt, run_underlying (slice_of hT), Instr.slice, this, size_of hE], .nilslice⟩
  · rename_i n e _ _ _ b off hT
    split at h
    case h_2 => cases h
    rename_i E hE
    split at h
    case h_2 => cases h
    rename_i hh h1
    split at h
    case h_2 => cases h
    rename_i l h2
    split at h
    case isFalse => cases h
    rename_i hln
    cases h
    obtain ⟨p, hφ, rfl⟩ := hx.ptr_inv
    have := (sliceBounds_run (P := P) (w := w) (s := false) h1 h2 hlo hhi).1
    have hn : n ≠ l := by omega
    have hle := abound_le h1 (Nat.le_refl _)
    refine ⟨.slice (some ((⟨p.g, p.o + off, none⟩ : Addr).add (l * E.size))) (hh - l) (n - l), ?_, ?_⟩
    · simp [Instr.sliceAt, run_underlying (array_of hT), Instr.sureAddr, this, size_of hE, hn]
    · rw [Addr.add_lit, Nat.add_assoc]
      exact .slice hφ (by omega) (Nat.le_refl _) (.inl rfl)
  · cases h

theorem aslice2_ok {P : Program} {B : Nat} {φ : BMap} {σ : AHeap} {w : World} {t : TypeId} {x x' v : Value} {lo lo' hi hi' : Option Value} (hr : RH P φ σ w B) (h : aslice2 P σ t x lo hi = some v) (hx : RV φ x x')
    (hlo : (lo = none ∧ lo' = none) ∨ ∃ u u', lo = some u ∧ lo' = some u' ∧ RV φ u u') (hhi : (hi = none ∧ hi' = none) ∨ ∃ u u', hi = some u ∧ hi' = some u' ∧ RV φ u u') :
    ∃ v', (Instr.sliceAt t x' lo' hi' none).run P w = .ok v' w ∧ RV φ v v' := by
  unfold aslice2 at h
  split at h
  case h_2 => exact aslice_ok h hx hlo hhi
  rename_i e _ _ _ b off len c hT
  split at h
  case h_2 => cases h
  rename_i E cs e' rw hE hb
  split at h
  case isFalse => cases h
  rename_i hse
  split at h
  case h_2 => cases h
  rename_i hh h1
  split at h
  case h_2 => cases h
  rename_i l h2
  split at h
  case isFalse => cases h
  rename_i hlc
  cases h
  obtain ⟨p, c', hφ, rfl, hlen, hcc, hroom⟩ := hx.slice_inv
  obtain ⟨q, hq, hok⟩ := hr.dom b _ hb
  rw [hφ] at hq; cases hq
  have hps : p.sz = E.size := by have := hok.2.2.1; rw [hse] at this; exact (Option.some.inj this).symm
  -- the bounds hold for the model's capacity too
  have h1' : abound len c' hi = some hh := by
    cases hi with
    | none => exact h1
    | some u =>
      cases u <;> simp only [abound] at h1 ⊢ <;> first
        | (cases h1; done)
        | (split at h1
           · rename_i hc1; rw [if_pos (by omega)]; exact h1
           · cases h1)
  have hb2 := sliceBounds_run (P := P) (w := w) (s := true) h1' h2 hlo hhi
  have hle := abound_le h1 hlen
  have hll := abound_le h2 (Nat.zero_le _)
  refine ⟨.slice (some ((⟨p.g, p.o + off, none⟩ : Addr).add (l * E.size))) (hh - l) (c' - l), ?_, ?_⟩
  · simp only [Instr.sliceAt, Sem.run_bind, run_under (slice_of hT), Result.andThen_ok, Instr.slice, hb2.1, size_of hE, Sem.run_pure]
    by_cases hcl : c' = l
    · have h0 : l = 0 := by omega
      rw [if_pos hcl, h0, Nat.zero_mul]; rfl
    · rw [if_neg hcl]; rfl
  · rw [Addr.add_lit, Nat.add_assoc]
    refine .slice hφ (by omega) (by omega) ?_
    rcases hroom with hroom | hroom
    · left; omega
    · right; rw [hps] at hroom ⊢
      have : l * E.size + (c' - l) * E.size = c' * E.size := by rw [← Nat.add_mul]; congr 1; omega
      omega

theorem aslice3_ok {P : Program} {B : Nat} {φ : BMap} {σ : AHeap} {w : World} {t : TypeId} {x x' v m m' : Value} {lo lo' hi hi' : Option Value} (hr : RH P φ σ w B) (h : aslice3 P σ t x lo hi m = some v) (hx : RV φ x x')
    (hlo : (lo = none ∧ lo' = none) ∨ ∃ u u', lo = some u ∧ lo' = some u' ∧ RV φ u u') (hhi : (hi = none ∧ hi' = none) ∨ ∃ u u', hi = some u ∧ hi' = some u' ∧ RV φ u u') (hm : RV φ m m') :
    ∃ v', (Instr.sliceAt t x' lo' hi' (some m')).run P w = .ok v' w ∧ RV φ v v' := by
  unfold aslice3 at h
  split at h
  case h_2 => cases h
  rename_i e _ _ _ b off len c hv hT
  split at h
  case h_2 => cases h
  rename_i E cs e' rw hE hb
  split at h
  case isFalse => cases h
  rename_i hse
  split at h
  case h_2 => cases h
  rename_i mm h0
  split at h
  case h_2 => cases h
  rename_i hh h1
  split at h
  case h_2 => cases h
  rename_i l h2
  split at h
  case isFalse => cases h
  rename_i hlc
  cases h
  obtain ⟨p, c', hφ, rfl, hlen, hcc, hroom⟩ := hx.slice_inv
  have hmm := abound_le h0 (Nat.le_refl _)
  have hhm := abound_le h1 (Nat.le_refl _)
  have hll := abound_le h2 (Nat.zero_le _)
  have r0 : (Instr.sliceBound m' c' .slice3Acap).run P w = .ok mm w := by
    unfold abound at h0
    split at h0
    · rename_i he; cases he
    · rename_i k i he
      cases he; cases hm.int_inv
      split at h0
      · cases h0; rename_i hi0; simp [Instr.sliceBound, asIntOf, show 0 ≤ i ∧ i ≤ (c' : Int) from by omega]
      · cases h0
    · cases h0
  have r1 := abound_run (P := P) (w := w) (c := .slice3B) h1 hhi
  have r2 := abound_run (P := P) (w := w) (c := .slice3C) h2 hlo
  rcases r1 with ⟨rfl, _⟩ | ⟨u1, rfl, r1, _⟩
  · rcases hhi with ⟨hc, _⟩ | ⟨_, _, _, hc, _⟩ <;> cases hc
  have hsb : (Instr.sliceBounds true len c' lo' (some u1) (some m')).run P w = .ok (l, hh, mm) w := by
    unfold Instr.sliceBounds
    rcases r2 with ⟨rfl, rfl⟩ | ⟨t', rfl, r2, _⟩ <;> simp [*]
  refine ⟨.slice (some ((⟨p.g, p.o + off, none⟩ : Addr).add (l * E.size))) (hh - l) (mm - l), ?_, ?_⟩
  · simp only [Instr.sliceAt, Sem.run_bind, run_under (slice_of hT), Result.andThen_ok, Instr.slice, hsb, size_of hE, Sem.run_pure]
    rw [if_neg (by omega)]; rfl
  · rw [Addr.add_lit, Nat.add_assoc]
    exact .slice hφ (by omega) (Nat.le_refl _) (.inl rfl)

/-! ### Numbers -/
theorem abin_ok {P : Program} {φ : BMap} {w : World} {op : BinOp} {t : TypeId} {x x' y y' v : Value} (h : abin op x y = some v) (hx : RV φ x x') (hy : RV φ y y') :
    (binOp op t x' y').run P w = .ok v w ∧ RV φ v v := by
  unfold abin at h
  split at h
  · cases hx.int_inv; cases hy.int_inv
    split at h <;> first
      | (cases h; done)
      | (split at h
         · rename_i hc
           cases h
           first | (obtain ⟨rfl, hc⟩ := hc) | subst hc | skip
           refine ⟨?_, by first | exact .int _ _ | exact .bool _⟩
           first
             | (simp [binOp, Op.intArith, Op.intDiv, Op.intBits, Op.intCmp]; done)
             | (simp [binOp, Op.intArith, Op.intDiv, Op.intBits, Op.intCmp, hc]; done)
             | (have hc' : ¬ _ := Int.not_lt.2 hc; simp [binOp, Op.shift, hc']; done)
         · cases h)
  · cases hx.string_inv; cases hy.string_inv
    split at h <;> first
      | (cases h; done)
      | (cases h; exact ⟨by simp [binOp, Op.stringOp], .bool _⟩)
  · cases h

end Go.Abs
