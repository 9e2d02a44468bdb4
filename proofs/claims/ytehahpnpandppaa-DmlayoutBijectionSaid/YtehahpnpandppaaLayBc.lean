/- A part of the proof: contracts of functions of the program, shown by walking through their code in an abstract machine. Condition: none. -/
import Derived.Test.YtehahpnpandppaaLayV
set_option linter.unusedVariables false
set_option linter.unusedSimpArgs false
namespace Go.Abs.Lay
open Go Go.Proofs
/-- As many as there are. -/
def Cnt (s : St) : Prop := s.cnt = s.ps.length
theorem assign_w {m n N : Nat} {r c : Int} {s s' : St} (h : assign m n N r c s = some s') (w : Cnt s) : Cnt s' := by
  obtain ⟨p, _, _, _, rfl⟩ := assign_inv h
  show s.cnt + 1 = (p :: s.ps).length
  rw [List.length_cons, ← w]
theorem assigns_w {m n N : Nat} : ∀ {L : List (Int × Int)} {s s' : St}, assigns m n N L s = some s' → Cnt s → Cnt s'
  | [], s, s', h, w => by cases h; exact w
  | (r, c) :: L, s, s', h, w => by
    simp only [assigns] at h
    split at h
    · rename_i s1 h1; exact assigns_w h (assign_w h1 w)
    · cases h
theorem placeIf_w {m n N : Nat} {g : Bool} {r c : Int} {s s' : St} (h : placeIf m n N g r c s = some s') (w : Cnt s) : Cnt s' := by
  obtain ⟨_, h1, h2⟩ := placeIf_inv h
  cases g with
  | false => rw [h1 rfl]; exact w
  | true =>
    obtain ⟨p, _, _, q1, q2⟩ := h2 rfl
    cases ht : s.mask.testBit p with
    | true => rw [q1 ht]; exact w
    | false => exact assigns_w (q2 ht) w
theorem upP_w {m n N : Nat} : ∀ {k : Nat} {r c : Int} {s : St} {x : Int × Int × St}, upP m n N k r c s = some x → Cnt s → Cnt x.2.2
  | 0, _, _, _, _, h, _ => by simp [upP] at h
  | k + 1, r, c, s, x, h, w => by
    simp only [upP] at h
    split at h
    · cases h
    · rename_i s1 h1
      split at h
      · exact upP_w h (placeIf_w h1 w)
      · cases h; exact placeIf_w h1 w
theorem downP_w {m n N : Nat} : ∀ {k : Nat} {r c : Int} {s : St} {x : Int × Int × St}, downP m n N k r c s = some x → Cnt s → Cnt x.2.2
  | 0, _, _, _, _, h, _ => by simp [downP] at h
  | k + 1, r, c, s, x, h, w => by
    simp only [downP] at h
    split at h
    · cases h
    · rename_i s1 h1
      split at h
      · exact downP_w h (placeIf_w h1 w)
      · cases h; exact placeIf_w h1 w
theorem if_w {b : Bool} {m n N : Nat} {L : List (Int × Int)} {s s' : St} (h : (if b then assigns m n N L s else some s) = some s') (w : Cnt s) : Cnt s' := by
  cases b with
  | true => exact assigns_w (by simpa using h) w
  | false => simp at h; rw [← h]; exact w
theorem corners_w {m n N : Nat} {r c : Int} {s s' : St} (h : corners m n N r c s = some s') (w : Cnt s) : Cnt s' := by
  obtain ⟨s1, s2, s3, h1, h2, h3, h4⟩ := corners_inv h
  exact if_w h4 (if_w h3 (if_w h2 (if_w h1 w)))
theorem fillP_w {m n N : Nat} : ∀ {k : Nat} {r c : Int} {s s' : St}, fillP m n N k r c s = some s' → Cnt s → Cnt s'
  | 0, _, _, _, _, h, _ => by simp [fillP] at h
  | k + 1, r, c, s, s', h, w => by
    simp only [fillP] at h
    split at h
    case isFalse => cases h
    split at h
    · cases h
    rename_i s1 h1
    split at h
    · cases h
    rename_i r2 c2 s2 h2
    split at h
    case isFalse => cases h
    split at h
    · cases h
    rename_i r3 c3 s3 h3
    split at h
    case isFalse => cases h
    have w3 : Cnt s3 := downP_w h3 (upP_w h2 (corners_w h1 w))
    split at h
    · exact fillP_w h w3
    · cases h; exact w3
end Go.Abs.Lay
