/- How Neighbours compares two links: the walk of its closure, as the sort asks for it. Conditions: none. -/
import Derived.Test.YtgmljlgoaifneaaGnc
import Derived.Shelf.SlSortCmp.InsertionK
namespace Go.Proofs.Ytgmljlgoaifneaa
open Go.RowKit Flt Go.Mem Go.Lib Go.Shelf Go.Sort
set_option linter.unusedVariables false
set_option maxHeartbeats 1600000
theorem nbCmp_any (x y : Lk) (W : World) : Calls Try.prog 43 #[.agg (lkC x).toArray, .agg (lkC y).toArray] W fun e w' => e = .returned (.int .i64 (cfN x y)) ∧ ∃ q os', w' = grow (W.drewN q) os' := by
  obtain ⟨xa, xb, xw, xu⟩ := x
  obtain ⟨ya, yb, yw, yu⟩ := y
  have hcf : cfN ⟨xa, xb, xw, xu⟩ ⟨ya, yb, yw, yu⟩ = cmpZ (IntKind.i64.wrap (xa + xb)) (IntKind.i64.wrap (ya + yb)) := rfl
  rw [hcf]
  generalize hp : IntKind.i64.wrap (xa + xb) = p at *
  generalize hq : IntKind.i64.wrap (ya + yb) = q at *
  clear hcf
  unfold lkC
  go_enter Try.func43, Try.ntmps43
  go_wp2_with (go_at_call 44; refine (compareI_any _ _ _).mono ?_; rintro e w' ⟨rfl, rfl⟩)
  go_ret
  exact ⟨rfl, 0, _, by rw [alloc_eq_grow, alloc_eq_grow, grow_grow]; rfl⟩
theorem nbLays (blk off size : Nat) (w : World) : CmpLays Try.prog 43 #[] lkC 4 cfN blk off size w :=
  fun _ _ _ _ x y => nbCmp_any x y _
end Go.Proofs.Ytgmljlgoaifneaa
