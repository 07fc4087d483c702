/- What a sort by the sum of the ends makes of a router's live links: plain Lean. Conditions: as each theorem's hypotheses say. -/
import Derived.Test.YtgmljlgoaifneaaGnb
import Derived.Sort.Statements
import Derived.Shelf.SlSortCmp.InsertionK
namespace Go.Proofs.Ytgmljlgoaifneaa
open Flt Go.Sort Go.Shelf Go.Lib
set_option linter.unusedVariables false
instance : Inhabited Lk := ⟨⟨0, 0, 0, false⟩⟩
/-- how Neighbours compares -/
def sumK (x : Lk) : Int := IntKind.i64.wrap (x.a + x.b)
def cfN (x y : Lk) : Int := cmpZ (sumK x) (sumK y)
theorem ltN (x y : Lk) : ltOf cfN x y = decide (sumK x < sumK y) := by
  unfold ltOf cfN
  by_cases h : sumK x < sumK y
  · simp [h, cmpZ_lt]
  · simp [h, cmpZ_lt]
theorem swoN : SWO (ltOf cfN) where
  irrefl x := by rw [ltN]; simp
  trans x y z h1 h2 := by rw [ltN] at *; simp at *; omega
  ntrans x y z h1 h2 := by rw [ltN] at *; simp at *; omega
theorem sumK_of {ns : List Nd} {ls : List Lk} {x : Lk} (g : Good ns ls) (hx : x ∈ ls) : sumK x = x.a + x.b := by
  obtain ⟨e1, e2, _, _⟩ := g.ends x hx
  obtain ⟨y, hy, ey⟩ := hasN_mem.1 e1
  obtain ⟨z, hz, ez⟩ := hasN_mem.1 e2
  have h1 := idOk_iff.1 (g.ids y hy)
  have h2 := idOk_iff.1 (g.ids z hz)
  unfold sumK
  rw [IntKind.wrap_i64]; omega
theorem nb_sorted {ns : List Nd} {ls : List Lk} {id : Int} {d' : Array Lk} (g : Good ns ls) (hp : PermIn 0 (ls.filter (nbP ns id)).length (ls.filter (nbP ns id)).toArray d') (hs : SortedIn (ltOf cfN) 0 (ls.filter (nbP ns id)).length d') : d'.toList = ns.filterMap (nbF ns ls id) := by
  obtain ⟨hsz, _, hperm⟩ := hp
  have hsz' : d'.size = (ls.filter (nbP ns id)).length := by simpa using hsz
  have hP : d'.toList.Perm (ls.filter (nbP ns id)) := by
    have := hperm
    simp only [Array.toList_extract, List.extract_eq_take_drop] at this
    simpa [List.take_of_length_le, hsz'] using this
  have hmem : ∀ y, y ∈ d'.toList ↔ y ∈ ls.filter (nbP ns id) := fun y => hP.mem_iff
  have hnd : (ls.filter (nbP ns id)).Pairwise (fun x y => x ≠ y) := (g.lrise.filter _).imp fun {x y} h e => by subst e; rw [lkLt_iff] at h; omega
  have hnd' : d'.toList.Pairwise (fun x y => x ≠ y) := (hP.pairwise_iff (fun {x y} h => Ne.symm h)).2 hnd
  refine nb_same g ?_ hmem
  rw [List.pairwise_iff_getElem]
  intro i j hi hj hij
  have hi' : i < d'.size := by simpa using hi
  have hj' : j < d'.size := by simpa using hj
  have h := hs i j (Nat.zero_le _) hij (by omega)
  rw [ltN] at h
  simp only [getElem!_pos, hi', hj', decide_eq_false_iff_not] at h
  have mi : d'[i] ∈ ls.filter (nbP ns id) := (hmem _).1 (by simp)
  have mj : d'[j] ∈ ls.filter (nbP ns id) := (hmem _).1 (by simp)
  rw [sumK_of g (List.mem_filter.1 mi).1, sumK_of g (List.mem_filter.1 mj).1] at h
  have hne := List.pairwise_iff_getElem.1 hnd' i j hi hj hij
  simp only [Array.getElem_toList] at hne ⊢
  have : ¬ (d'[i].a + d'[i].b = d'[j].a + d'[j].b) := fun e => hne (nb_key g mi mj e)
  omega
end Go.Proofs.Ytgmljlgoaifneaa
