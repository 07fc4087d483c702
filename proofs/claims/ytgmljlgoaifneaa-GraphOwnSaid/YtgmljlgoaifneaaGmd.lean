/- How Neighbours compares two links: the walk of its closure, as the sort asks for it. Conditions: none. The world behind the sort of links: the row and what stays. Conditions: as each theorem's hypotheses say. -/
import Derived.Test.YtgmljlgoaifneaaGmb
import Derived.Shelf.SlSortCmp.InsertionK
import Derived.Test.YtgmljlgoaifneaaGis
namespace Go.Proofs.Ytgmljlgoaifneaa
open Go.RowKit Flt Go.Mem Go.Lib Go.Shelf Go.Sort
set_option linter.unusedVariables false
set_option maxHeartbeats 1600000
theorem nbCmp_any (x y : Lk) (W : World) : Calls Try.prog 43 #[.agg (lkC x).toArray, .agg (lkC y).toArray] W fun e w' => e = .returned (.int .i64 (cfN x y)) ∧ ∃ q os', w' = grow (W.drewN q) os' := by
  obtain ⟨xa, xb, xw, xu⟩ := x
  obtain ⟨ya, yb, yw, yu⟩ := y
  have hcf : cfN ⟨xa, xb, xw, xu⟩ ⟨ya, yb, yw, yu⟩ = cmpZ (IntKind.i64.wrap (xa + xb)) (IntKind.i64.wrap (ya + yb)) := rfl
  rw [hcf]
  generalize hp : IntKind.i64.wrap (xa + xb) = p at *
  generalize hq : IntKind.i64.wrap (ya + yb) = q at *
  clear hcf
  unfold lkC
  go_enter Try.func43, Try.ntmps43
  go_wp2_with (go_at_call 44; refine (compareI_any _ _ _).mono ?_; rintro e w' ⟨rfl, rfl⟩)
  go_ret
  exact ⟨rfl, 0, _, by rw [alloc_eq_grow, alloc_eq_grow, grow_grow]; rfl⟩
theorem nbLays (blk off size : Nat) (w : World) : CmpLays Try.prog 43 #[] lkC 4 cfN blk off size w :=
  fun _ _ _ _ x y => nbCmp_any x y _
end Go.Proofs.Ytgmljlgoaifneaa

namespace Go.Proofs.Ytgmljlgoaifneaa
open Go.RowKit Flt Go.Mem Go.Lib Go.Shelf Go.Sort
set_option linter.unusedVariables false
theorem flatK_get (d' : Array Lk) (t : Nat) (ht : t < d'.size * 4) : (flatK lkC 4 d')[t]! = (d'.toList.flatMap lkC)[t]! := by
  rw [get_flatK _ _ _ _ ht]
  have hi : t / 4 < d'.size := by omega
  have h := flat_get lkC 4 (fun _ => rfl) d'.toList (t / 4) (t % 4) (Nat.mod_lt _ (by omega))
  rw [show t / 4 * 4 + t % 4 = t by omega] at h
  have h2 : d'.toList[t / 4]? = some (d'[t / 4]) := by rw [Array.getElem?_toList]; exact Array.getElem?_eq_getElem hi
  rw [h2] at h
  have h3 : (d'.toList.flatMap lkC)[t]? = (lkC d'[t / 4])[t % 4]? := h
  rw [getElem!_pos d' _ hi, List.getElem!_eq_getElem?_getD, List.getElem!_eq_getElem?_getD, h3]
theorem sort_world {w : World} {base k d g : Nat} {l : List Lk} (h : w.ownsRow base 54 4 (.slice (some ⟨g, 0, none⟩) k d) k (l.flatMap lkC)) {d' : Array Lk} (hsz : d'.size = k) (n : Nat) (os : Array Obj) :
    (sortWorldK lkC 4 w g 0 n d' os).ownsRow base 54 4 (.slice (some ⟨g, 0, none⟩) k d) k (d'.toList.flatMap lkC) ∧ RowKit.Below base w (sortWorldK lkC 4 w g 0 n d' os) := by
  obtain ⟨hxl, hcase⟩ := h
  rcases hcase with ⟨h, _⟩ | ⟨g3, cap, cur, he, hbg, hcur, hnc, hcm, hcs, htk⟩
  · cases h
  injection he with e1 e2 e3
  injection e1 with e1
  injection e1 with e1 _ _
  subst e1
  subst e3
  have hlt := lt_of_heap2 hcur
  have hF : (flatK lkC 4 d').size = k * 4 := by rw [size_flatK, hsz]
  have hh : (sortWorldK lkC 4 w g 0 n d' os).heap[g]? = some (.cells (putCells id 0 (flatK lkC 4 d') cur) 54 (0, 0)) := by
    show (w.heap.modify g (onCells (putCells id 0 (flatK lkC 4 d'))) ++ os)[g]? = _
    rw [Array.getElem?_append_left (by simpa using hlt), Array.getElem?_modify, if_pos rfl, hcur]
    rfl
  have ho : ∀ q, q < w.heap.size → q ≠ g → (sortWorldK lkC 4 w g 0 n d' os).heap[q]? = w.heap[q]? := fun q hq hne => by
    show (w.heap.modify g (onCells (putCells id 0 (flatK lkC 4 d'))) ++ os)[q]? = _
    rw [Array.getElem?_append_left (by simpa using hq), Array.getElem?_modify, if_neg (fun e => hne e.symm)]
  refine ⟨⟨by rw [flat_len lkC 4 (fun _ => rfl)]; simp [hsz], .inr ⟨g, d, _, rfl, hbg, hh, hnc, hcm, by unfold putCells; simpa using hcs, ?_⟩⟩, ⟨rfl, rfl, rfl, ?_, fun q hq => ho q (by omega) (by omega)⟩⟩
  · have hl : (d'.toList.flatMap lkC).length = k * 4 := by rw [flat_len lkC 4 (fun _ => rfl)]; simp [hsz]
    apply List.ext_getElem?
    intro t
    rw [List.getElem?_take]
    by_cases ht : t < k * 4
    · have htc : t < cur.size := by rw [hcs]; have := Nat.mul_le_mul_right 4 hnc; omega
      rw [if_pos ht]
      unfold putCells
      rw [Array.getElem?_toList, Array.getElem?_mapIdx, Array.getElem?_eq_getElem htc]
      simp only [Option.map_some]
      rw [if_pos ⟨Nat.zero_le _, by rw [hF]; omega⟩, Nat.sub_zero, flatK_get d' t (by rw [hsz]; exact ht), List.getElem?_eq_getElem (by omega), getElem!_pos _ t (by omega)]
      rfl
    · rw [if_neg ht, List.getElem?_eq_none (by omega)]
  · show w.heap.size ≤ (w.heap.modify g _ ++ os).size
    simp
end Go.Proofs.Ytgmljlgoaifneaa
