/- A part of the proof: contracts of functions of the program, shown by walking through their code in an abstract machine. Condition: none. -/
import Derived.Test.YtipgikhblcfpjaaProg
import Derived.Test.YtipgikhblcfpjaaAbsGr4
set_option linter.unusedVariables false
set_option linter.unusedSimpArgs false
namespace Go.Abs.Run
open Go Go.Proofs
set_option maxRecDepth 20000
theorem mixed : Try.prog.follows .mixedOrders = true := by kernel_rfl
theorem ty2 : ty Try.prog 2 = some ⟨(.int .i64), 1, 8, (some (.int .i64 0))⟩ := by kernel_rfl
theorem ty3 : ty Try.prog 3 = some ⟨(.int .i64), 1, 8, (some (.int .i64 0))⟩ := by kernel_rfl
theorem ty4 : ty Try.prog 4 = some ⟨.bool, 1, 1, (some (.bool false))⟩ := by kernel_rfl
theorem ty5 : ty Try.prog 5 = some ⟨(.int .u8), 1, 1, (some (.int .u8 0))⟩ := by kernel_rfl
theorem ty6 : ty Try.prog 6 = some ⟨(.int .u8), 1, 1, (some (.int .u8 0))⟩ := by kernel_rfl
theorem ty7 : ty Try.prog 7 = some ⟨(.struct [(0, 2), (1, 3), (2, 4), (3, 6)]), 4, 24, (some (.agg ([(.int .i64 0), (.int .i64 0), (.bool false), (.int .u8 0)].toArray)))⟩ := by kernel_rfl
theorem ty8 : ty Try.prog 8 = some ⟨(.struct [(0, 2), (1, 3), (2, 4), (3, 6)]), 4, 24, (some (.agg ([(.int .i64 0), (.int .i64 0), (.bool false), (.int .u8 0)].toArray)))⟩ := by kernel_rfl
theorem ty9 : ty Try.prog 9 = some ⟨.string, 1, 16, (some (.string (.mk ([].toArray))))⟩ := by kernel_rfl
theorem ty10 : ty Try.prog 10 = some ⟨.string, 1, 16, (some (.string (.mk ([].toArray))))⟩ := by kernel_rfl
theorem ty11 : ty Try.prog 11 = some ⟨.string, 1, 16, (some (.string (.mk ([].toArray))))⟩ := by kernel_rfl
theorem ty12 : ty Try.prog 12 = some ⟨(.int .u64), 1, 8, (some (.int .u64 0))⟩ := by kernel_rfl
theorem ty13 : ty Try.prog 13 = some ⟨(.struct [(0, 9), (1, 12)]), 2, 24, (some (.agg ([(.string (.mk ([].toArray))), (.int .u64 0)].toArray)))⟩ := by kernel_rfl
theorem ty14 : ty Try.prog 14 = some ⟨(.struct [(0, 9), (1, 12)]), 2, 24, (some (.agg ([(.string (.mk ([].toArray))), (.int .u64 0)].toArray)))⟩ := by kernel_rfl
theorem ty15 : ty Try.prog 15 = some ⟨(.pointer 67), 1, 8, (some (.pointer none))⟩ := by kernel_rfl
theorem ty16 : ty Try.prog 16 = some ⟨(.pointer 70), 1, 8, (some (.pointer none))⟩ := by kernel_rfl
theorem ty17 : ty Try.prog 17 = some ⟨(.pointer 79), 1, 8, (some (.pointer none))⟩ := by kernel_rfl
theorem ty18 : ty Try.prog 18 = some ⟨(.struct [(0, 17)]), 1, 8, (some (.agg ([(.pointer none)].toArray)))⟩ := by kernel_rfl
theorem ty19 : ty Try.prog 19 = some ⟨(.struct [(0, 17)]), 1, 8, (some (.agg ([(.pointer none)].toArray)))⟩ := by kernel_rfl
theorem ty21 : ty Try.prog 21 = some ⟨(.int .i32), 1, 4, (some (.int .i32 0))⟩ := by kernel_rfl
theorem ty22 : ty Try.prog 22 = some ⟨(.slice 3), 1, 24, (some (.slice none 0 0))⟩ := by kernel_rfl
theorem ty25 : ty Try.prog 25 = some ⟨(.slice 4), 1, 24, (some (.slice none 0 0))⟩ := by kernel_rfl
theorem ty26 : ty Try.prog 26 = some ⟨(.int .i64), 1, 8, (some (.int .i64 0))⟩ := by kernel_rfl
theorem ty54 : ty Try.prog 54 = some ⟨(.int .u64), 1, 8, (some (.int .u64 0))⟩ := by kernel_rfl
theorem ty59 : ty Try.prog 59 = some ⟨(.int .u32), 1, 4, (some (.int .u32 0))⟩ := by kernel_rfl
theorem ty62 : ty Try.prog 62 = some ⟨(.int .u64), 1, 8, (some (.int .u64 0))⟩ := by kernel_rfl
theorem ty66 : ty Try.prog 66 = some ⟨(.struct [(0, 17), (1, 17), (2, 17), (3, 9)]), 4, 40, (some (.agg ([(.pointer none), (.pointer none), (.pointer none), (.string (.mk ([].toArray)))].toArray)))⟩ := by kernel_rfl
theorem ty67 : ty Try.prog 67 = some ⟨(.struct [(0, 17), (1, 17), (2, 17), (3, 9)]), 4, 40, (some (.agg ([(.pointer none), (.pointer none), (.pointer none), (.string (.mk ([].toArray)))].toArray)))⟩ := by kernel_rfl
theorem ty68 : ty Try.prog 68 = some ⟨(.array 0 16), 0, 0, (some (.agg ([].toArray)))⟩ := by kernel_rfl
theorem ty69 : ty Try.prog 69 = some ⟨(.struct [(0, 68)]), 0, 0, (some (.agg ([].toArray)))⟩ := by kernel_rfl
theorem ty70 : ty Try.prog 70 = some ⟨(.struct [(0, 68)]), 0, 0, (some (.agg ([].toArray)))⟩ := by kernel_rfl
theorem ty72 : ty Try.prog 72 = some ⟨(.int .u8), 1, 1, (some (.int .u8 0))⟩ := by kernel_rfl
theorem ty73 : ty Try.prog 73 = some ⟨(.int .u8), 1, 1, (some (.int .u8 0))⟩ := by kernel_rfl
theorem ty75 : ty Try.prog 75 = some ⟨(.pointer 5), 1, 8, (some (.pointer none))⟩ := by kernel_rfl
theorem ty76 : ty Try.prog 76 = some ⟨(.int .i32), 1, 4, (some (.int .i32 0))⟩ := by kernel_rfl
theorem ty77 : ty Try.prog 77 = some ⟨(.int .i32), 1, 4, (some (.int .i32 0))⟩ := by kernel_rfl
theorem ty78 : ty Try.prog 78 = some ⟨(.struct [(0, 12), (1, 12), (2, 59), (3, 72), (4, 5), (5, 5), (6, 73), (7, 74), (8, 75), (9, 76), (10, 77)]), 11, 48, (some (.agg ([(.int .u64 0), (.int .u64 0), (.int .u32 0), (.int .u8 0), (.int .u8 0), (.int .u8 0), (.int .u8 0), .nilFunc, (.pointer none), (.int .i32 0), (.int .i32 0)].toArray)))⟩ := by kernel_rfl
theorem ty79 : ty Try.prog 79 = some ⟨(.struct [(0, 12), (1, 12), (2, 59), (3, 72), (4, 5), (5, 5), (6, 73), (7, 74), (8, 75), (9, 76), (10, 77)]), 11, 48, (some (.agg ([(.int .u64 0), (.int .u64 0), (.int .u32 0), (.int .u8 0), (.int .u8 0), (.int .u8 0), (.int .u8 0), .nilFunc, (.pointer none), (.int .i32 0), (.int .i32 0)].toArray)))⟩ := by kernel_rfl
/-- The types that are met, and what is known of them. -/
def tyTab : Nat → Option ATy
  | 2 => some ⟨(.int .i64), 1, 8, (some (.int .i64 0))⟩
  | 3 => some ⟨(.int .i64), 1, 8, (some (.int .i64 0))⟩
  | 4 => some ⟨.bool, 1, 1, (some (.bool false))⟩
  | 5 => some ⟨(.int .u8), 1, 1, (some (.int .u8 0))⟩
  | 6 => some ⟨(.int .u8), 1, 1, (some (.int .u8 0))⟩
  | 7 => some ⟨(.struct [(0, 2), (1, 3), (2, 4), (3, 6)]), 4, 24, (some (.agg ([(.int .i64 0), (.int .i64 0), (.bool false), (.int .u8 0)].toArray)))⟩
  | 8 => some ⟨(.struct [(0, 2), (1, 3), (2, 4), (3, 6)]), 4, 24, (some (.agg ([(.int .i64 0), (.int .i64 0), (.bool false), (.int .u8 0)].toArray)))⟩
  | 9 => some ⟨.string, 1, 16, (some (.string (.mk ([].toArray))))⟩
  | 10 => some ⟨.string, 1, 16, (some (.string (.mk ([].toArray))))⟩
  | 11 => some ⟨.string, 1, 16, (some (.string (.mk ([].toArray))))⟩
  | 12 => some ⟨(.int .u64), 1, 8, (some (.int .u64 0))⟩
  | 13 => some ⟨(.struct [(0, 9), (1, 12)]), 2, 24, (some (.agg ([(.string (.mk ([].toArray))), (.int .u64 0)].toArray)))⟩
  | 14 => some ⟨(.struct [(0, 9), (1, 12)]), 2, 24, (some (.agg ([(.string (.mk ([].toArray))), (.int .u64 0)].toArray)))⟩
  | 15 => some ⟨(.pointer 67), 1, 8, (some (.pointer none))⟩
  | 16 => some ⟨(.pointer 70), 1, 8, (some (.pointer none))⟩
  | 17 => some ⟨(.pointer 79), 1, 8, (some (.pointer none))⟩
  | 18 => some ⟨(.struct [(0, 17)]), 1, 8, (some (.agg ([(.pointer none)].toArray)))⟩
  | 19 => some ⟨(.struct [(0, 17)]), 1, 8, (some (.agg ([(.pointer none)].toArray)))⟩
  | 21 => some ⟨(.int .i32), 1, 4, (some (.int .i32 0))⟩
  | 22 => some ⟨(.slice 3), 1, 24, (some (.slice none 0 0))⟩
  | 25 => some ⟨(.slice 4), 1, 24, (some (.slice none 0 0))⟩
  | 26 => some ⟨(.int .i64), 1, 8, (some (.int .i64 0))⟩
  | 54 => some ⟨(.int .u64), 1, 8, (some (.int .u64 0))⟩
  | 59 => some ⟨(.int .u32), 1, 4, (some (.int .u32 0))⟩
  | 62 => some ⟨(.int .u64), 1, 8, (some (.int .u64 0))⟩
  | 66 => some ⟨(.struct [(0, 17), (1, 17), (2, 17), (3, 9)]), 4, 40, (some (.agg ([(.pointer none), (.pointer none), (.pointer none), (.string (.mk ([].toArray)))].toArray)))⟩
  | 67 => some ⟨(.struct [(0, 17), (1, 17), (2, 17), (3, 9)]), 4, 40, (some (.agg ([(.pointer none), (.pointer none), (.pointer none), (.string (.mk ([].toArray)))].toArray)))⟩
  | 68 => some ⟨(.array 0 16), 0, 0, (some (.agg ([].toArray)))⟩
  | 69 => some ⟨(.struct [(0, 68)]), 0, 0, (some (.agg ([].toArray)))⟩
  | 70 => some ⟨(.struct [(0, 68)]), 0, 0, (some (.agg ([].toArray)))⟩
  | 72 => some ⟨(.int .u8), 1, 1, (some (.int .u8 0))⟩
  | 73 => some ⟨(.int .u8), 1, 1, (some (.int .u8 0))⟩
  | 75 => some ⟨(.pointer 5), 1, 8, (some (.pointer none))⟩
  | 76 => some ⟨(.int .i32), 1, 4, (some (.int .i32 0))⟩
  | 77 => some ⟨(.int .i32), 1, 4, (some (.int .i32 0))⟩
  | 78 => some ⟨(.struct [(0, 12), (1, 12), (2, 59), (3, 72), (4, 5), (5, 5), (6, 73), (7, 74), (8, 75), (9, 76), (10, 77)]), 11, 48, (some (.agg ([(.int .u64 0), (.int .u64 0), (.int .u32 0), (.int .u8 0), (.int .u8 0), (.int .u8 0), (.int .u8 0), .nilFunc, (.pointer none), (.int .i32 0), (.int .i32 0)].toArray)))⟩
  | 79 => some ⟨(.struct [(0, 12), (1, 12), (2, 59), (3, 72), (4, 5), (5, 5), (6, 73), (7, 74), (8, 75), (9, 76), (10, 77)]), 11, 48, (some (.agg ([(.int .u64 0), (.int .u64 0), (.int .u32 0), (.int .u8 0), (.int .u8 0), (.int .u8 0), (.int .u8 0), .nilFunc, (.pointer none), (.int .i32 0), (.int .i32 0)].toArray)))⟩
  | _ => none
theorem tf {t : Nat} {T : ATy} (h : tyTab t = some T) : ty Try.prog t = some T := by
  unfold tyTab at h
  split at h
  · rw [← h]; exact ty2
  · rw [← h]; exact ty3
  · rw [← h]; exact ty4
  · rw [← h]; exact ty5
  · rw [← h]; exact ty6
  · rw [← h]; exact ty7
  · rw [← h]; exact ty8
  · rw [← h]; exact ty9
  · rw [← h]; exact ty10
  · rw [← h]; exact ty11
  · rw [← h]; exact ty12
  · rw [← h]; exact ty13
  · rw [← h]; exact ty14
  · rw [← h]; exact ty15
  · rw [← h]; exact ty16
  · rw [← h]; exact ty17
  · rw [← h]; exact ty18
  · rw [← h]; exact ty19
  · rw [← h]; exact ty21
  · rw [← h]; exact ty22
  · rw [← h]; exact ty25
  · rw [← h]; exact ty26
  · rw [← h]; exact ty54
  · rw [← h]; exact ty59
  · rw [← h]; exact ty62
  · rw [← h]; exact ty66
  · rw [← h]; exact ty67
  · rw [← h]; exact ty68
  · rw [← h]; exact ty69
  · rw [← h]; exact ty70
  · rw [← h]; exact ty72
  · rw [← h]; exact ty73
  · rw [← h]; exact ty75
  · rw [← h]; exact ty76
  · rw [← h]; exact ty77
  · rw [← h]; exact ty78
  · rw [← h]; exact ty79
  · cases h
theorem tb {t : Nat} (h : (tyTab t).isSome = true) : (ty Try.prog t).isSome = true := by
  cases e : tyTab t with
  | none => rw [e] at h; cases h
  | some T => rw [tf e]; rfl
end Go.Abs.Run
