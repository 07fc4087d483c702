/- The sort of a router's live links, as graph.Neighbours asks for it. Conditions: the graph may be. -/
import Derived.Test.YtgmljlgoaifneaaGnt
import Derived.Test.YtgmljlgoaifneaaGng
import Derived.Test.YtgmljlgoaifneaaShelf
import Derived.Shelf.SlSortCmp.WholeK
import Derived.Shelf.SlSortCmp.NoneTotal
namespace Go.Proofs.Ytgmljlgoaifneaa
open Go.RowKit Flt Go.Mem Go.Lib Go.Shelf Go.Sort
set_option linter.unusedVariables false
set_option maxRecDepth 100000
theorem isAggL (w : World) : (isAgg 54).run Try.prog w = .ok true w := by
  simp [isAgg, run_underlying Try.underlying54]
theorem sizeL4 (w : World) : (Go.sizeOf 54).run Try.prog w = .ok 4 w := by
  simp [sizeOf, typeInfo]; rfl
theorem sortsLk_any {ns : List Nd} {ls : List Lk} {id : Int} (g : Good ns ls) : SortsLk ls ns id := by
  intro A k d base w hown hk
  rcases own_cases hown with ⟨rfl, rfl, rfl⟩ | ⟨g2, rfl, hnc, hcm⟩
  · have hnil : ls.filter (nbP ns id) = [] := by
      have := (GL.of_own hown).1
      exact List.eq_nil_of_length_eq_zero this
    have hnil2 : ns.filterMap (nbF ns ls id) = [] := by
      rw [← nb_same g (l := []) List.Pairwise.nil (fun y => by rw [hnil])]
    have hcon := AnyF.slices_SortFunc_none Try.sortLk none 0 (.func (.func 43) #[] #[]) w
    change Calls Try.prog 42 _ _ _ at hcon
    refine hcon.mono ?_
    rintro e w' ⟨rfl, rfl⟩
    exact ⟨rfl, by rw [hnil2]; exact World.ownsRow_nil _ _ _ _, RowKit.Below.refl _ _⟩
  · obtain ⟨l, hl⟩ : ∃ l, l = ls.filter (nbP ns id) := ⟨_, rfl⟩
    rw [← hl] at hown
    have hlen : l.length = k := (GL.of_own hown).1
    have hsz : l.toArray.size = k := by simpa using hlen
    have hlt := (hown.lt g2 rfl).2
    have hH : HoldsK lkC 4 w g2 0 l.toArray := fun j hj => by
      rw [size_flatK, hsz] at hj
      rw [Nat.zero_add]
      refine ⟨?_, hown.frozenAt j⟩
      rw [hown.cellAt j hj, flatK_get _ _ (by rw [hsz]; exact hj)]
      rw [List.getElem?_eq_getElem (by rw [flat_len lkC 4 (fun _ => rfl), hlen]; exact hj)]
      show some _ = some (List.flatMap lkC l)[j]!
      rw [getElem!_pos (List.flatMap lkC l) j]
    have eg : ∀ args w, (callFunc 43 args).run Try.prog w = .ok (.enter 43 args) w := enters_of Try.func43 (by kernel_rfl) rfl
    have hcon := AnyQ.slices_SortFunc Try.sortLk 4 isAggL sizeL4 lkC (fun _ => rfl) (fun x v hv => oneL x v hv) cfN swoN 43 #[] g2 0 d l.toArray w eg (nbLays g2 0 _ w) hH hlt (by omega)
    change Calls Try.prog 42 _ _ _ at hcon
    rw [hsz] at hcon
    refine hcon.mono ?_
    rintro e w' ⟨rfl, d', n, os, hp, hs, rfl⟩
    have hd : d'.toList = ns.filterMap (nbF ns ls id) := nb_sorted g (by rw [← hl, hlen]; exact hp) (by rw [← hl, hlen]; exact hs)
    have hds : d'.size = k := hp.1.trans hsz
    have hw := sort_world hown hds n os
    rw [hd] at hw
    exact ⟨rfl, hw.1, hw.2⟩
end Go.Proofs.Ytgmljlgoaifneaa
