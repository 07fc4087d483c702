/- A router's live links: the reference's list is the links' list sorted by the sum of their ends: plain Lean. Conditions: as each theorem's hypotheses say. What a sort by the sum of the ends makes of a router's live links: plain Lean. Conditions: as each theorem's hypotheses say. -/
import Derived.Test.YtgmljlgoaifneaaGdp
import Derived.Test.YtgmljlgoaifneaaGlw
import Derived.Sort.Statements
import Derived.Shelf.SlSortCmp.InsertionK
namespace Go.Proofs.Ytgmljlgoaifneaa
open Flt
set_option linter.unusedVariables false
/-- is a link one of a router's that are up -/
def nbP (ns : List Nd) (id : Int) (x : Lk) : Bool := (decide (x.a = id) || decide (x.b = id)) && liveL ns x
/-- what the reference finds at a router's neighbour -/
def nbF (ns : List Nd) (ls : List Lk) (id : Int) (n : Nd) : Option Lk := if hasL ls (lkT id n.id) = true ∧ liveL ns (lkA ls (cntL ls (lkT id n.id))) = true then some (lkA ls (cntL ls (lkT id n.id))) else none
theorem sorted_same {α : Type} (key : α → Int) : ∀ {l1 l2 : List α}, l1.Pairwise (fun x y => key x < key y) → l2.Pairwise (fun x y => key x < key y) → (∀ x, x ∈ l1 ↔ x ∈ l2) → l1 = l2
  | [], [], _, _, _ => rfl
  | [], y :: l2, _, _, h => absurd ((h y).2 (List.mem_cons_self ..)) (by simp)
  | x :: l1, [], _, _, h => absurd ((h x).1 (List.mem_cons_self ..)) (by simp)
  | x :: l1, y :: l2, h1, h2, h => by
    have p1 := List.pairwise_cons.1 h1
    have p2 := List.pairwise_cons.1 h2
    have e : x = y := by
      rcases List.mem_cons.1 ((h x).1 (List.mem_cons_self ..)) with e | hx
      · exact e
      · rcases List.mem_cons.1 ((h y).2 (List.mem_cons_self ..)) with e | hy
        · exact e.symm
        · have := p2.1 x hx
          have := p1.1 y hy
          omega
    subst e
    refine congrArg _ (sorted_same key p1.2 p2.2 fun z => ⟨fun hz => ?_, fun hz => ?_⟩)
    · rcases List.mem_cons.1 ((h z).1 (List.mem_cons_of_mem _ hz)) with e | hz'
      · subst e; have := p1.1 z hz; omega
      · exact hz'
    · rcases List.mem_cons.1 ((h z).2 (List.mem_cons_of_mem _ hz)) with e | hz'
      · subst e; have := p2.1 z hz; omega
      · exact hz'
theorem mn_mx_sum (a b : Int) : mnI a b + mxI a b = a + b := by unfold mnI mxI; split <;> split <;> omega
theorem nbF_sum {ns : List Nd} {ls : List Lk} {id : Int} {n : Nd} {y : Lk} (g : Good ns ls) (h : nbF ns ls id n = some y) : y.a + y.b = id + n.id := by
  unfold nbF at h
  split at h
  · rename_i hc
    injection h with e
    obtain ⟨_, e1, e2⟩ := cnt_lk g.RiseL hc.1
    rw [← e, e1, e2]
    exact mn_mx_sum id n.id
  · cases h
/-- the reference's list rises -/
theorem nb_rise {ns : List Nd} {ls : List Lk} {id : Int} (g : Good ns ls) : (ns.filterMap (nbF ns ls id)).Pairwise (fun x y => x.a + x.b < y.a + y.b) := by
  rw [List.pairwise_filterMap]
  exact g.rise.imp fun {x y} hxy p hp q hq => by
    rw [nbF_sum g hp, nbF_sum g hq]; omega
/-- the two lists have the same links -/
theorem nb_mem {ns : List Nd} {ls : List Lk} {id : Int} (g : Good ns ls) (y : Lk) : y ∈ ns.filterMap (nbF ns ls id) ↔ y ∈ ls.filter (nbP ns id) := by
  rw [List.mem_filterMap, List.mem_filter]
  constructor
  · rintro ⟨n, hn, h⟩
    unfold nbF at h
    split at h
    · rename_i hc
      injection h with e
      obtain ⟨hi, e1, e2⟩ := cnt_lk g.RiseL hc.1
      rw [← e]
      refine ⟨by rw [lkA_get hi]; exact List.getElem_mem _, ?_⟩
      unfold nbP
      rw [hc.2, e1, e2]
      unfold lkT mnI mxI
      dsimp only
      split <;> split <;> simp <;> omega
    · cases h
  · rintro ⟨hy, hp⟩
    unfold nbP at hp
    simp only [Bool.and_eq_true, Bool.or_eq_true, decide_eq_true_eq] at hp
    obtain ⟨hend, hlive⟩ := hp
    obtain ⟨i, hi, rfl⟩ := List.getElem_of_mem hy
    obtain ⟨e1, e2, e3, _⟩ := g.ends _ hy
    -- the other end
    obtain ⟨o, ho, ht⟩ : ∃ o, hasN ns o = true ∧ ((lkT id o).a = (ls[i]).a ∧ (lkT id o).b = (ls[i]).b) := by
      rcases hend with h | h
      · refine ⟨(ls[i]).b, e2, ?_⟩
        unfold lkT mnI mxI
        dsimp only
        rw [if_neg (by omega), if_pos (by omega)]
        exact ⟨h.symm, rfl⟩
      · refine ⟨(ls[i]).a, e1, ?_⟩
        unfold lkT mnI mxI
        dsimp only
        rw [if_pos (by omega), if_neg (by omega)]
        exact ⟨rfl, h.symm⟩
    obtain ⟨n, hn, en⟩ := hasN_mem.1 ho
    refine ⟨n, hn, ?_⟩
    have hh : hasL ls (lkT id n.id) = true := hasL_mem.2 ⟨ls[i], hy, by rw [en]; exact ⟨ht.1.symm, ht.2.symm⟩⟩
    have hc : cntL ls (lkT id n.id) = i := bl_end (by omega) (fun k hk => by
        have := g.RiseL k i hk hi
        rw [lkA_get (i := i) hi, lkLt_iff] at this
        rw [lkLt_iff, en]; omega) (fun k hk hl h => by
        rw [lkLt_iff, en] at h
        by_cases e : i = k
        · subst e; rw [lkA_get hi] at h; omega
        · have := g.RiseL i k (by omega) hl
          rw [lkA_get (i := i) hi, lkLt_iff] at this
          omega)
    unfold nbF
    rw [hc, lkA_get hi, if_pos ⟨hh, hlive⟩]
/-- whatever list rises by the ends' sums and has the router's live links is the reference's -/
theorem nb_same {ns : List Nd} {ls l : List Lk} {id : Int} (g : Good ns ls) (hr : l.Pairwise (fun x y => x.a + x.b < y.a + y.b)) (hm : ∀ y, y ∈ l ↔ y ∈ ls.filter (nbP ns id)) : l = ns.filterMap (nbF ns ls id) :=
  sorted_same (fun x : Lk => x.a + x.b) hr (nb_rise g) fun y => (hm y).trans (nb_mem g y).symm
/-- the sums of a router's links tell them apart -/
theorem nb_key {ns : List Nd} {ls : List Lk} {id : Int} (g : Good ns ls) {x y : Lk} (hx : x ∈ ls.filter (nbP ns id)) (hy : y ∈ ls.filter (nbP ns id)) (h : x.a + x.b = y.a + y.b) : x = y := by
  have hx' := (nb_mem g x).2 hx
  have hy' := (nb_mem g y).2 hy
  obtain ⟨i, hi, rfl⟩ := List.getElem_of_mem hx'
  obtain ⟨j, hj, rfl⟩ := List.getElem_of_mem hy'
  have hp := List.pairwise_iff_getElem.1 (nb_rise (id := id) g)
  rcases Nat.lt_trichotomy i j with hij | hij | hij
  · have := hp i j hi hj hij; omega
  · subst hij; rfl
  · have := hp j i hj hi hij; omega
end Go.Proofs.Ytgmljlgoaifneaa

namespace Go.Proofs.Ytgmljlgoaifneaa
open Flt Go.Sort Go.Shelf Go.Lib
set_option linter.unusedVariables false
instance : Inhabited Lk := ⟨⟨0, 0, 0, false⟩⟩
/-- how Neighbours compares -/
def sumK (x : Lk) : Int := IntKind.i64.wrap (x.a + x.b)
def cfN (x y : Lk) : Int := cmpZ (sumK x) (sumK y)
theorem ltN (x y : Lk) : ltOf cfN x y = decide (sumK x < sumK y) := by
  unfold ltOf cfN
  by_cases h : sumK x < sumK y
  · simp [h, cmpZ_lt]
  · simp [h, cmpZ_lt]
theorem swoN : SWO (ltOf cfN) where
  irrefl x := by rw [ltN]; simp
  trans x y z h1 h2 := by rw [ltN] at *; simp at *; omega
  ntrans x y z h1 h2 := by rw [ltN] at *; simp at *; omega
theorem sumK_of {ns : List Nd} {ls : List Lk} {x : Lk} (g : Good ns ls) (hx : x ∈ ls) : sumK x = x.a + x.b := by
  obtain ⟨e1, e2, _, _⟩ := g.ends x hx
  obtain ⟨y, hy, ey⟩ := hasN_mem.1 e1
  obtain ⟨z, hz, ez⟩ := hasN_mem.1 e2
  have h1 := idOk_iff.1 (g.ids y hy)
  have h2 := idOk_iff.1 (g.ids z hz)
  unfold sumK
  rw [IntKind.wrap_i64]; omega
theorem nb_sorted {ns : List Nd} {ls : List Lk} {id : Int} {d' : Array Lk} (g : Good ns ls) (hp : PermIn 0 (ls.filter (nbP ns id)).length (ls.filter (nbP ns id)).toArray d') (hs : SortedIn (ltOf cfN) 0 (ls.filter (nbP ns id)).length d') : d'.toList = ns.filterMap (nbF ns ls id) := by
  obtain ⟨hsz, _, hperm⟩ := hp
  have hsz' : d'.size = (ls.filter (nbP ns id)).length := by simpa using hsz
  have hP : d'.toList.Perm (ls.filter (nbP ns id)) := by
    have := hperm
    simp only [Array.toList_extract, List.extract_eq_take_drop] at this
    simpa [List.take_of_length_le, hsz'] using this
  have hmem : ∀ y, y ∈ d'.toList ↔ y ∈ ls.filter (nbP ns id) := fun y => hP.mem_iff
  have hnd : (ls.filter (nbP ns id)).Pairwise (fun x y => x ≠ y) := (g.lrise.filter _).imp fun {x y} h e => by subst e; rw [lkLt_iff] at h; omega
  have hnd' : d'.toList.Pairwise (fun x y => x ≠ y) := (hP.pairwise_iff (fun {x y} h => Ne.symm h)).2 hnd
  refine nb_same g ?_ hmem
  rw [List.pairwise_iff_getElem]
  intro i j hi hj hij
  have hi' : i < d'.size := by simpa using hi
  have hj' : j < d'.size := by simpa using hj
  have h := hs i j (Nat.zero_le _) hij (by omega)
  rw [ltN] at h
  simp only [getElem!_pos, hi', hj', decide_eq_false_iff_not] at h
  have mi : d'[i] ∈ ls.filter (nbP ns id) := (hmem _).1 (by simp)
  have mj : d'[j] ∈ ls.filter (nbP ns id) := (hmem _).1 (by simp)
  rw [sumK_of g (List.mem_filter.1 mi).1, sumK_of g (List.mem_filter.1 mj).1] at h
  have hne := List.pairwise_iff_getElem.1 hnd' i j hi hj hij
  simp only [Array.getElem_toList] at hne ⊢
  have : ¬ (d'[i].a + d'[i].b = d'[j].a + d'[j].b) := fun e => hne (nb_key g mi mj e)
  omega
end Go.Proofs.Ytgmljlgoaifneaa
