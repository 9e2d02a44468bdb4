/- A part of the proof: contracts of functions of the program, shown by walking through their code in an abstract machine. Condition: none. -/
import Derived.Test.YtehahpnpandppaaLayL
import Derived.Test.YtehahpnpandppaaAbsGr4
set_option linter.unusedVariables false
set_option linter.unusedSimpArgs false
namespace Go.Abs.Lay
open Go Go.Proofs
set_option maxHeartbeats 1000000

theorem ab89 (a b : Int) : abuild Try.prog 89 [(0, .int .i64 a), (1, .int .i64 b)] = some (.agg #[.int .i64 a, .int .i64 b]) := by simp only [abuild, ty89, ty3]; rfl

/-- What is assigned: the modules as bits of a number, how many, and the modules, the last one first. -/
structure St where
  mask : Nat
  cnt : Nat
  ps : List Nat
def st0 : St := ⟨0, 0, []⟩
def St.push (s : St) (p : Nat) : St := ⟨Nat.lor s.mask (Nat.shiftLeft 1 p), s.cnt + 1, p :: s.ps⟩
/-- The module that is meant by a row and a column. -/
def pos (m n r c : Int) : Int :=
  if r < 0 then
    if c + (4 - (m + 4).tmod 8) < 0 then (r + m + (4 - (n + 4).tmod 8)) * n + (c + (4 - (m + 4).tmod 8) + n) else (r + m) * n + (c + (4 - (m + 4).tmod 8))
  else if c < 0 then (r + (4 - (n + 4).tmod 8)) * n + (c + n) else r * n + c
/-- The cells of the modules. -/
def bitsOf (N : Nat) : List Nat → List Value
  | [] => List.replicate N (.int .i64 (-1))
  | p :: ps => (bitsOf N ps).set p (.int .i64 ((ps.length : Nat) : Int))
theorem bitsOf_len (N : Nat) : ∀ ps, (bitsOf N ps).length = N
  | [] => by simp [bitsOf]
  | p :: ps => by simp [bitsOf, bitsOf_len N ps]

/-- The modules in the heap. -/
structure Grid (G B : Nat) (m n N : Nat) (s : St) (σ : AHeap) : Prop where
  lt : G < σ.next
  ltB : B < σ.next
  ne : G ≠ B
  bits : σ.blk B = some (.cells (bitsOf N s.ps) 3 true)
  cnt : s.cnt = s.ps.length
  sm : m ≤ 200
  sn : n ≤ 200
  sN : N ≤ 40000
  tst : ∀ p, p < N → ∃ v : Int, (bitsOf N s.ps)[p]? = some (.int .i64 v) ∧ (s.mask.testBit p = false → v = -1) ∧ (s.mask.testBit p = true → 0 ≤ v)
/-- dmlayout's grid -/
structure GridD (G B : Nat) (m n N : Nat) (s : St) (σ : AHeap) : Prop extends Grid G B m n N s σ where
  g : σ.blk G = some (.cells [.int .i64 m, .int .i64 n, .slice (some ⟨B, 0, none⟩) N N, .int .i64 ((s.cnt : Nat) : Int)] 71 true)
/-- the reference's grid -/
structure GridR (G B : Nat) (m n N C : Nat) (s : St) (k : Nat) (σ : AHeap) : Prop extends Grid G B m n N s σ where
  g : σ.blk G = some (.cells [.int .i64 m, .int .i64 n, .int .i64 ((k : Nat) : Int), .slice (some ⟨B, 0, none⟩) N C] 74 true)
/-- All but two blocks are as they were. -/
structure Keep (G B : Nat) (σ τ : AHeap) : Prop where
  next : σ.next ≤ τ.next
  blk : ∀ b, b < σ.next → b ≠ G → b ≠ B → τ.blk b = σ.blk b
theorem Keep.refl (G B : Nat) (σ : AHeap) : Keep G B σ σ := ⟨Nat.le_refl _, fun _ _ _ _ => rfl⟩
theorem Keep.trans {G B : Nat} {σ τ υ : AHeap} (h : Keep G B σ τ) (k : Keep G B τ υ) : Keep G B σ υ := ⟨Nat.le_trans h.next k.next, fun b hb h1 h2 => (k.blk b (Nat.lt_of_lt_of_le hb h.next) h1 h2).trans (h.blk b hb h1 h2)⟩
theorem Keep.more {G B : Nat} {σ τ : AHeap} (h : More σ τ) : Keep G B σ τ := ⟨h.next, fun b hb _ _ => h.blk b hb⟩

theorem Grid.more {G B m n N : Nat} {s : St} {σ τ : AHeap} (h : Grid G B m n N s σ) (k : More σ τ) : Grid G B m n N s τ :=
  ⟨Nat.lt_of_lt_of_le h.lt k.next, Nat.lt_of_lt_of_le h.ltB k.next, h.ne, (k.blk _ h.ltB).trans h.bits, h.cnt, h.sm, h.sn, h.sN, h.tst⟩
theorem GridD.more {G B m n N : Nat} {s : St} {σ τ : AHeap} (h : GridD G B m n N s σ) (k : More σ τ) : GridD G B m n N s τ := ⟨h.toGrid.more k, (k.blk _ h.lt).trans h.g⟩
theorem GridR.more {G B m n N C : Nat} {s : St} {j : Nat} {σ τ : AHeap} (h : GridR G B m n N C s j σ) (k : More σ τ) : GridR G B m n N C s j τ := ⟨h.toGrid.more k, (k.blk _ h.lt).trans h.g⟩
theorem tst0 (N : Nat) : ∀ p, p < N → ∃ v : Int, (bitsOf N st0.ps)[p]? = some (.int .i64 v) ∧ (st0.mask.testBit p = false → v = -1) ∧ (st0.mask.testBit p = true → 0 ≤ v) :=
  fun p hp => ⟨-1, by simp [st0, bitsOf, hp], fun _ => rfl, fun h => by simp [st0] at h⟩
theorem tst_push {N : Nat} {s : St} (hc : s.cnt = s.ps.length) (h : ∀ p, p < N → ∃ v : Int, (bitsOf N s.ps)[p]? = some (.int .i64 v) ∧ (s.mask.testBit p = false → v = -1) ∧ (s.mask.testBit p = true → 0 ≤ v)) (q : Nat) :
    ∀ p, p < N → ∃ v : Int, (bitsOf N (s.push q).ps)[p]? = some (.int .i64 v) ∧ ((s.push q).mask.testBit p = false → v = -1) ∧ ((s.push q).mask.testBit p = true → 0 ≤ v) := by
  intro p hp
  have hm : (s.push q).mask.testBit p = (s.mask.testBit p || decide (q = p)) := by
    show (s.mask ||| (1 <<< q)).testBit p = _
    rw [Nat.testBit_or, Nat.one_shiftLeft, Nat.testBit_two_pow]
  have hb : bitsOf N (s.push q).ps = (bitsOf N s.ps).set q (.int .i64 ((s.ps.length : Nat) : Int)) := rfl
  rw [hm, hb]
  by_cases hq : q = p
  · subst hq
    refine ⟨((s.ps.length : Nat) : Int), by simp [bitsOf_len, hp], fun h => by simp at h, fun _ => by omega⟩
  · obtain ⟨v, h1, h2, h3⟩ := h p hp
    refine ⟨v, ?_, fun h => h2 (by simpa [hq] using h), fun h => h3 (by simpa [hq] using h)⟩
    rw [List.getElem?_set_ne hq]; exact h1

/-- One more module. -/
def assign (m n N : Nat) (r c : Int) (s : St) : Option St :=
  match pos m n r c with
  | .ofNat p => if Nat.blt p N && Nat.blt s.cnt 1000000 then some (s.push p) else none
  | _ => none
theorem assign_inv {m n N : Nat} {r c : Int} {s s' : St} (h : assign m n N r c s = some s') : ∃ p : Nat, pos m n r c = (p : Int) ∧ p < N ∧ s.cnt < 1000000 ∧ s' = s.push p := by
  unfold assign at h
  split at h
  · rename_i p hp
    split at h
    · rename_i hb
      simp only [Bool.and_eq_true] at hb
      cases h
      exact ⟨p, hp, Nat.le_of_ble_eq_true hb.1, Nat.le_of_ble_eq_true hb.2, rfl⟩
    · cases h
  · cases h
def assigns (m n N : Nat) : List (Int × Int) → St → Option St
  | [], s => some s
  | (r, c) :: l, s => match assign m n N r c s with
    | some s => assigns m n N l s
    | none => none
end Go.Abs.Lay
