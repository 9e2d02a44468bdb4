/- THE ABSTRACT MACHINE, part V: struct types whose values are compared as data. -/
import Derived.Test.YtehahpnpandppaaAbsU
set_option linter.unusedVariables false
set_option linter.unusedSimpArgs false
namespace Go.Abs
open Go

theorem KeyOk.deep {P : Program} {m : Nat} (hm : m + 1 ≤ 10000) {k : TypeId} (hk : P.keyTypeAt m k = true) (ht : P.tiled m k = true) (hwide : (match P.underlying k with | some (.array _ _) | some (.struct _) => true | _ => false) = true) (hg : P.eqGuardType P.depth k = false) : KeyOk P k where
  law := deep_law hm hk ht hwide
  eq w x y hx hy := by
    obtain ⟨lx, hlx⟩ := Option.isSome_iff_exists.1 hx
    obtain ⟨ly, hly⟩ := Option.isSome_iff_exists.1 hy
    obtain ⟨r, h1, h2⟩ := run_equal_deep w (by omega) hk hwide hlx hly
    refine ⟨r, h1, h2.trans ⟨fun e => ?_, fun e => ?_⟩⟩
    · subst e; exact keyOf_inj_deep ht hwide hlx hly
    · subst e; rw [hlx] at hly; cases hly; rfl
  guard := hg
end Go.Abs
