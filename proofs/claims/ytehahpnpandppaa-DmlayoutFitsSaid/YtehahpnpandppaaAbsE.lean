/- THE ABSTRACT MACHINE, part E: append, copy, clear, make, and what is built. -/
import Derived.Test.YtehahpnpandppaaAbsD
set_option linter.unusedVariables false
set_option linter.unusedSimpArgs false
namespace Go.Abs
open Go

/-- Cells are stored into a row that is not frozen. -/
theorem world_store (P : Program) {w : World} {g off : Nat} {e : TypeId} {cur : Array Value} {news : List Value} (hcur : w.heap[g]? = some (.cells cur e (0, 0))) (hle : off + news.length ≤ cur.size) (hone : ∀ v ∈ news, v.oneCell' = true) :
    ∃ w' cur', (storeCells ⟨g, off, none⟩ news).run P w = .ok () w' ∧ w'.heap[g]? = some (.cells cur' e (0, 0)) ∧ cur'.size = cur.size ∧
      (∀ i : Nat, cur'[i]? = if off ≤ i ∧ i < off + news.length then news[i - off]? else cur[i]?) ∧ (∀ k, k ≠ g → w'.heap[k]? = w.heap[k]?) ∧ w'.heap.size = w.heap.size ∧
      w'.os = w.os ∧ w'.tape = w.tape ∧ w'.output = w.output := by
  have hst := run_storeCells_at P g off e news 0 cur w hcur (by simp only [Nat.add_zero]; omega) hone
  simp only [Nat.add_zero] at hst
  have hoff : off ≤ cur.toList.length := by simp; omega
  refine ⟨_, (cur.toList.take off ++ news ++ cur.toList.drop (off + news.length)).toArray, hst, ?_, ?_, fun i => ?_, fun k hk => ?_, ?_, rfl, rfl, rfl⟩
  · simp only [World.setRow, Array.getElem?_modify, if_true, hcur, Option.map_some]
  · simp only [List.size_toArray, List.length_append, List.length_take, List.length_drop, Nat.min_eq_left hoff]; simp only [Array.length_toList]; omega
  · simp only [List.getElem?_toArray]
    split
    · rename_i hi
      rw [List.append_assoc, List.getElem?_append_right (by simp; omega), List.getElem?_append_left (by simp; omega)]
      simp only [List.length_take, Nat.min_eq_left hoff]
    · rename_i hi
      by_cases hi1 : i < off
      · rw [List.append_assoc, List.getElem?_append_left (by simp; omega), List.getElem?_take, if_pos hi1]; simp
      · rw [List.getElem?_append_right (by simp; omega), List.getElem?_drop]
        simp only [List.length_append, List.length_take, Nat.min_eq_left hoff]
        rw [show off + news.length + (i - (off + news.length)) = i by omega]; simp
  · simp only [World.setRow, Array.getElem?_modify]; rw [if_neg (by omega)]
  · simp [World.setRow]

theorem RVs.ones {φ : BMap} {xs xs' : List Value} (h : RVs φ xs xs') (ho : Ones xs) : ∀ v ∈ xs', v.oneCell' = true := fun v hv => by
  obtain ⟨i, hi⟩ := List.mem_iff_getElem?.1 hv
  have hil : i < xs'.length := (List.getElem?_eq_some_iff.1 hi).1
  have hl := h.1
  have := h.2 i (xs[i]'(by omega)) v (List.getElem?_eq_getElem (by omega)) hi
  rw [this.oneCell]; exact ho i _ (List.getElem?_eq_getElem (by omega))

theorem tk_slice {P : Program} {t e : TypeId} (h : tk P t = some (.slice e)) : P.underlying t = some (.slice e) := by
  unfold tk at h
  split at h
  · rename_i T hT
    obtain ⟨d, i, hd, hi, rfl⟩ := ty_spec hT
    cases h' : d <;> simp [h', akind] at h
    subst h; subst h'; exact hd
  · cases h
theorem tk_string {P : Program} {t : TypeId} (h : tk P t = some .string) : P.underlying t = some .string := by
  unfold tk at h
  split at h
  · rename_i T hT
    obtain ⟨d, i, hd, hi, rfl⟩ := ty_spec hT
    cases h' : d <;> simp [h', akind] at h
    subst h'; exact hd
  · cases h
theorem tk_array {P : Program} {t e : TypeId} {n : Nat} (h : tk P t = some (.array n e)) : P.underlying t = some (.array n e) := by
  unfold tk at h
  split at h
  · rename_i T hT
    obtain ⟨d, i, hd, hi, rfl⟩ := ty_spec hT
    cases h' : d <;> simp [h', akind] at h
    obtain ⟨rfl, rfl⟩ := h; subst h'; exact hd
  · cases h
theorem tk_bool {P : Program} {t : TypeId} (h : tk P t = some .bool) : P.underlying t = some .bool := by
  unfold tk at h
  split at h
  · rename_i T hT
    obtain ⟨d, i, hd, hi, rfl⟩ := ty_spec hT
    cases h' : d <;> simp [h', akind] at h
    subst h'; exact hd
  · cases h

theorem RVs.bytes (φ : BMap) (s : ByteArray) : RVs φ (byteCells s) (byteCells s) := by
  refine ⟨rfl, fun i v v' a b => ?_⟩
  rw [a] at b; cases b
  obtain ⟨_, _, rfl⟩ := List.mem_map.1 (List.mem_of_getElem? a)
  exact .int _ _
theorem Ones.bytes (s : ByteArray) : Ones (byteCells s) := fun i v a => by
  obtain ⟨_, _, rfl⟩ := List.mem_map.1 (List.mem_of_getElem? a); rfl

theorem asrc_src {P : Program} {B : Nat} {φ : BMap} {σ : AHeap} {w : World} {t : TypeId} {s n : Nat} {z x x' : Value} {news : List Value} (hr : RH P φ σ w B) (h : asrc P σ t s z x = some (n, news)) (hx : RV φ x x') :
    ∃ news', Src P s t x' n news' w ∧ RVs φ news news' ∧ Ones news ∧ news.length = n * s := by
  unfold asrc at h
  split at h
  · split at h
    · rename_i e hk
      cases h; cases hx.nil_inv
      exact ⟨[], Src.ofNil w (tk_slice hk) 0, .nil _, fun i v a => by simp at a, by simp⟩
    · cases h
  · rename_i b off n' c
    split at h
    · rename_i e cs e' rw hk hb
      split at h
      · rename_i hlen
        cases h
        obtain ⟨p, c', hφ, rfl, h1, h2, h3⟩ := hx.slice_inv
        obtain ⟨q, hq, hok⟩ := hr.dom b _ hb
        rw [hφ] at hq; cases hq
        obtain ⟨xs, a1, a2, a3, a4⟩ := cells_at hok hlen
        exact ⟨xs, Src.ofSlice w (tk_slice hk) _ n c' xs a2 a4 (a1.ones a3), a1, a3, by rw [a1.1, a2]⟩
      · cases h
    · cases h
  · rename_i b
    split at h
    · rename_i hk
      split at h
      · rename_i hs
        cases h; subst hs; cases hx.string_inv
        exact ⟨byteCells b, Src.ofString w (tk_string hk) b, .bytes _ _, .bytes _, by rw [byteCells_length, Nat.mul_one]⟩
      · cases h
    · cases h
  · cases h

theorem run_append_zero (P : Program) (w : World) (t tx ty e : TypeId) (i : TypeInfo) (ht : P.underlying t = some (.slice e)) (hi : P.info? e = some i) (x : Value) (news : List Value) (hs : Src P i.size tx x 0 news w) :
    (Builtin.append_ #[t, tx] ty #[.slice none 0 0, x]).run P w = .ok (.slice none 0 0) w := by
  rcases hs.kind with ⟨e', hk⟩ | hk <;> simp [Builtin.append_, run_underlying ht, run_underlying hk, sizeOf, typeInfo, hi, hs.len, hs.cells]

theorem zero_cells_size (z : Array Value) (n : Nat) : (Builtin.zeroCells z n).size = n * z.size := by simp [Builtin.zeroCells]

theorem aappend_ok {P : Program} {B id : Nat} {φ : BMap} {σ σ' : AHeap} {w : World} {tS tX rt : TypeId} {v v' x x' u : Value} (hr : RH P φ σ w B) (hid : φ id = none) (hlt : id < σ.next)
    (h : aappend P σ id tS tX v x = some (u, σ')) (hv : RV φ v v') (hx : RV φ x x') :
    ∃ u' w' φ', (Builtin.append_ #[tS, tX] rt #[v', x']).run P w = .ok u' w' ∧ RV φ' u u' ∧ RH P φ' σ' w' B ∧ OStep id φ σ w φ' σ' w' := by
  unfold aappend at h
  split at h
  case h_2 => cases h
  rename_i e _ _ _ hS
  split at h
  case h_2 => cases h
  rename_i ek s bytes z hE
  obtain ⟨dS, iS, hdS, hiS, heS⟩ := ty_spec hS
  obtain ⟨d, i, hd, hi, heq⟩ := ty_spec hE
  have hkS : akind dS = .slice e := by injection heS with a; exact a.symm
  have hsl : P.underlying tS = some (.slice e) := by rw [hdS, akind_slice hkS]
  injection heq with _ hsz hby hz
  subst hsz; subst hby
  split at h
  case isFalse => cases h
  rename_i hzs
  split at h
  case h_2 => cases h
  rename_i n news hsrc
  obtain ⟨news', hs, hn, hone, hnl⟩ := asrc_src hr hsrc hx
  have htsz : tsz P e = some i.size := by simp [tsz, hE]
  have hn' : news'.length = n * i.size := by rw [← hn.1, hnl]
  split at h
  · -- nil
    cases hv.nil_inv
    split at h
    · rename_i h0
      cases h; subst h0
      exact ⟨_, w, φ, run_append_zero P w tS tX rt e i hsl hi x' news' hs, .nilslice, hr, .refl _ _ _ _⟩
    · rename_i h0
      split at h
      · rename_i hb
        cases h
        have hg := run_append_grow_src (P := P) w tS tX rt e i z hsl hi hz.symm none 0 0 [] (run_firstCells_none _ _ _ _ _) x' n news' hs (by omega) (by omega) (growslice_fits (by omega) (by rw [Nat.zero_add]; omega))
        rw [Nat.zero_add] at hg
        have hcap := grownCap_ge w n 0 e
        have hsize : (([] ++ news').toArray ++ Builtin.zeroCells z.cells (grownCap w n 0 e - n)).size = grownCap w n 0 e * i.size := by
          simp only [List.nil_append, Array.size_append, List.size_toArray, zero_cells_size, hzs, hn', ← Nat.add_mul]; congr 1; omega
        obtain ⟨a, b⟩ := hr.cells (w1 := w.drew) (cs := news) (cur := ([] ++ news').toArray ++ Builtin.zeroCells z.cells (grownCap w n 0 e - n)) hid hlt rfl rfl rfl rfl htsz hone
          (fun j u hu => let ⟨u', p, q⟩ := hn.get hu; ⟨u', by
            have hj : j < news'.length := (List.getElem?_eq_some_iff.1 p).1
            rw [List.nil_append, Array.getElem?_append_left (by simpa using hj)]; simpa using p, q⟩)
          (by rw [hsize, hnl]; exact Nat.mul_le_mul_right _ hcap)
        refine ⟨_, _, _, hg, ?_, a, b⟩
        exact RV.slice (p := ⟨w.heap.size, 0, _, i.size⟩) (lay_same _ _ _) (Nat.le_refl _) hcap (.inr (by simp only [Nat.zero_add]; exact Nat.le_of_eq hsize.symm))
      · cases h
  · rename_i b off len c
    split at h
    case h_2 => cases h
    rename_i cs e' hb
    split at h
    case isFalse => cases h
    rename_i he
    subst he
    obtain ⟨p, c', hφ, rfl, h1, h2, h3⟩ := hv.slice_inv
    obtain ⟨q, hq, hok⟩ := hr.dom b _ hb
    rw [hφ] at hq; cases hq
    obtain ⟨hones, hcell, hpsz, hrw⟩ := hok
    obtain ⟨ho, hB, cur, hcur, hroom, hle⟩ := hrw rfl
    have hpe : p.sz = i.size := by rw [htsz] at hpsz; exact (Option.some.inj hpsz).symm
    split at h
    · -- known room
      rename_i hc
      split at h
      · rename_i hlen
        cases h
        obtain ⟨w', a, b', c''⟩ := store_cells (id := id) (off := off + len * i.size) hr hb hφ hn hone (by rw [hnl, Nat.add_assoc, ← Nat.add_mul]; exact hlen)
        refine ⟨.slice (some ⟨p.g, p.o + off, none⟩) (len + n) c', w', φ, ?_, .slice hφ hc h2 h3, b', c''⟩
        have hroom' : len + n ≤ c' := by omega
        have hst : (storeCells ((⟨p.g, p.o + off, none⟩ : Addr).add (len * i.size)) news').run P w = .ok () w' := by rw [Addr.add_lit, Nat.add_assoc]; exact a
        rw [Addr.add_lit] at hst
        rcases hs.kind with ⟨e'', hk⟩ | hk <;> simp [Builtin.append_, run_underlying hsl, run_underlying hk, sizeOf, typeInfo, hi, hs.len, hroom', hs.cells, Addr.add_lit, hst]
      · cases h
    · rename_i hc
      split at h
      case isFalse => cases h
      rename_i hfull
      obtain ⟨hoff, hcl, hby, h63⟩ := hfull
      cases h
      subst hoff
      have hp0 : p.o + 0 = 0 := by omega
      by_cases hroom' : len + n ≤ c'
      · -- there is room behind
        have hcr : c' * p.sz ≤ p.room := by
          rcases h3 with h3 | h3
          · omega
          · omega
        have hneed : (len + n) * i.size ≤ cur.size := by
          rw [hroom]; rw [hpe] at hcr; exact Nat.le_trans (Nat.mul_le_mul_right _ hroom') hcr
        rw [Nat.add_mul] at hneed
        obtain ⟨w', cur', a1, a2, a3, a4, a5, a6, a7, a8, a9⟩ := world_store P (news := news') hcur (off := len * i.size) (by omega) (hn.ones hone)
        have hlne := lay_ext (φ := φ) (p := p) hid
        obtain ⟨b1, b2⟩ := hr.replace (id := id) (q := p) (y := .cells (cs ++ news) e' true) hb rfl hφ rfl hid hlt rfl a5 a6 a7 a8 a9
          ⟨hones.append hone, fun j u hu => by
            rw [ho, Nat.zero_add]
            have hcn : w'.cell? ⟨p.g, j, none⟩ = cur'[j]? := by simp [World.cell?, a2]
            rw [hcn, a4]
            by_cases hj : j < cs.length
            · rw [List.getElem?_append_left hj] at hu
              rw [if_neg (by omega)]
              obtain ⟨u', c1, c2⟩ := hcell j u hu
              rw [ho, Nat.zero_add] at c1
              exact ⟨u', by simpa [World.cell?, hcur] using c1, c2.ext hlne⟩
            · rw [List.getElem?_append_right (by omega)] at hu
              obtain ⟨u', c1, c2⟩ := hn.get hu
              have hj' : j - cs.length < news'.length := (List.getElem?_eq_some_iff.1 c1).1
              rw [if_pos (by omega)]
              exact ⟨u', by rw [hcl]; exact c1, c2.ext hlne⟩, hpsz, fun _ => ⟨ho, hB, cur', a2, by rw [a3]; exact hroom, by rw [List.length_append, hnl, ← hcl]; omega⟩⟩
        refine ⟨.slice (some ⟨p.g, p.o + 0, none⟩) (len + n) c', w', _, ?_, ?_, b1, b2⟩
        · have hst : (storeCells ⟨p.g, len * i.size, none⟩ news').run P w = .ok () w' := a1
          simp only [ho, Nat.zero_add]
          rcases hs.kind with ⟨e'', hk⟩ | hk <;> simp [Builtin.append_, run_underlying hsl, run_underlying hk, sizeOf, typeInfo, hi, hs.len, hroom', hs.cells, Addr.add_lit, hst]
        · exact RV.slice (p := p) (lay_same _ _ _) (Nat.le_refl _) hroom' (.inr (by omega))
      · -- a new row
        obtain ⟨xs, c1, c2, c3, c4⟩ := cells_at (P := P) (φ := φ) (w := w) (B := B) (p := p) ⟨hones, hcell, hpsz, hrw⟩ (off := 0) (n := len * i.size) (by omega)
        rw [List.drop_zero, List.take_of_length_le (by omega)] at c1 c3
        have hold := run_firstCells_some (P := P) w.drew i.size len ⟨p.g, p.o + 0, none⟩ len c' xs c2 (by simpa using c4)
        have hg := run_append_grow_src (P := P) w tS tX rt e' i z hsl hi hz.symm (some ⟨p.g, p.o + 0, none⟩) len c' xs hold x' n news' hs (by omega) (by omega) (growslice_fits (by omega) (by omega))
        have hcap := grownCap_ge w (len + n) c' e'
        have hsize : ((xs ++ news').toArray ++ Builtin.zeroCells z.cells (grownCap w (len + n) c' e' - (len + n))).size = grownCap w (len + n) c' e' * i.size := by
          simp only [Array.size_append, List.size_toArray, List.length_append, zero_cells_size, hzs, hn', c2, ← Nat.add_mul]; congr 1; omega
        have happ := c1.append hn
        obtain ⟨a, b'⟩ := (hr.del (b := b)).cells (w1 := w.drew) (cs := cs ++ news) (cur := (xs ++ news').toArray ++ Builtin.zeroCells z.cells (grownCap w (len + n) c' e' - (len + n))) hid hlt rfl rfl rfl rfl htsz (c3.append hone)
          (fun j u hu => let ⟨u', p, q⟩ := happ.get hu; ⟨u', by
            have hj : j < (xs ++ news').length := (List.getElem?_eq_some_iff.1 p).1
            rw [Array.getElem?_append_left (by simpa using hj)]; simpa using p, q⟩)
          (by rw [hsize, List.length_append, ← hcl, hnl, ← Nat.add_mul]; exact Nat.mul_le_mul_right _ hcap)
        refine ⟨_, _, _, hg, ?_, a, b'.del⟩
        exact RV.slice (p := ⟨w.heap.size, 0, _, i.size⟩) (lay_same _ _ _) (Nat.le_refl _) hcap (.inr (by simp only [Nat.zero_add]; exact Nat.le_of_eq hsize.symm))
  · cases h

end Go.Abs
