/- The sort of a router's live links, as graph.Neighbours asks for it. Conditions: the graph may be. The walk of the law on a router's live links. Conditions: the arguments read as a graph and a number. -/
import Derived.Test.YtgmljlgoaifneaaGmd
import Derived.Test.YtgmljlgoaifneaaGmr
import Derived.Test.YtgmljlgoaifneaaShelf
import Derived.Shelf.SlSortCmp.WholeK
import Derived.Shelf.SlSortCmp.NoneTotal
import Derived.Test.YtgmljlgoaifneaaGsm
import Derived.Test.YtgmljlgoaifneaaGop
import Derived.Test.YtgmljlgoaifneaaGaw
import Derived.Test.YtgmljlgoaifneaaGrc
import Derived.Test.YtgmljlgoaifneaaGcp
namespace Go.Proofs.Ytgmljlgoaifneaa
open Go.RowKit Flt Go.Mem Go.Lib Go.Shelf Go.Sort
set_option linter.unusedVariables false
set_option maxRecDepth 100000
theorem isAggL (w : World) : (isAgg 54).run Try.prog w = .ok true w := by
  simp [isAgg, run_underlying Try.underlying54]
theorem sizeL4 (w : World) : (Go.sizeOf 54).run Try.prog w = .ok 4 w := by
  simp [sizeOf, typeInfo]; rfl
theorem sortsLk_any {ns : List Nd} {ls : List Lk} {id : Int} (g : Good ns ls) : SortsLk ls ns id := by
  intro A k d base w hown hk
  rcases own_cases hown with ⟨rfl, rfl, rfl⟩ | ⟨g2, rfl, hnc, hcm⟩
  · have hnil : ls.filter (nbP ns id) = [] := by
      have := (GL.of_own hown).1
      exact List.eq_nil_of_length_eq_zero this
    have hnil2 : ns.filterMap (nbF ns ls id) = [] := by
      rw [← nb_same g (l := []) List.Pairwise.nil (fun y => by rw [hnil])]
    have hcon := AnyF.slices_SortFunc_none Try.sortLk none 0 (.func (.func 43) #[] #[]) w
    change Calls Try.prog 42 _ _ _ at hcon
    refine hcon.mono ?_
    rintro e w' ⟨rfl, rfl⟩
    exact ⟨rfl, by rw [hnil2]; exact World.ownsRow_nil _ _ _ _, RowKit.Below.refl _ _⟩
  · obtain ⟨l, hl⟩ : ∃ l, l = ls.filter (nbP ns id) := ⟨_, rfl⟩
    rw [← hl] at hown
    have hlen : l.length = k := (GL.of_own hown).1
    have hsz : l.toArray.size = k := by simpa using hlen
    have hlt := (hown.lt g2 rfl).2
    have hH : HoldsK lkC 4 w g2 0 l.toArray := fun j hj => by
      rw [size_flatK, hsz] at hj
      rw [Nat.zero_add]
      refine ⟨?_, hown.frozenAt j⟩
      rw [hown.cellAt j hj, flatK_get _ _ (by rw [hsz]; exact hj)]
      rw [List.getElem?_eq_getElem (by rw [flat_len lkC 4 (fun _ => rfl), hlen]; exact hj)]
      show some _ = some (List.flatMap lkC l)[j]!
      rw [getElem!_pos (List.flatMap lkC l) j]
    have eg : ∀ args w, (callFunc 43 args).run Try.prog w = .ok (.enter 43 args) w := enters_of Try.func43 (by kernel_rfl) rfl
    have hcon := AnyQ.slices_SortFunc Try.sortLk 4 isAggL sizeL4 lkC (fun _ => rfl) (fun x v hv => oneL x v hv) cfN swoN 43 #[] g2 0 d l.toArray w eg (nbLays g2 0 _ w) hH hlt (by omega)
    change Calls Try.prog 42 _ _ _ at hcon
    rw [hsz] at hcon
    refine hcon.mono ?_
    rintro e w' ⟨rfl, d', n, os, hp, hs, rfl⟩
    have hd : d'.toList = ns.filterMap (nbF ns ls id) := nb_sorted g (by rw [← hl, hlen]; exact hp) (by rw [← hl, hlen]; exact hs)
    have hds : d'.size = k := hp.1.trans hsz
    have hw := sort_world hown hds n os
    rw [hd] at hw
    exact ⟨rfl, hw.1, hw.2⟩
end Go.Proofs.Ytgmljlgoaifneaa

namespace Go.Proofs.Ytgmljlgoaifneaa
open Go.RowKit Flt Go.Mem Go.Lib
set_option linter.unusedVariables false

attribute [local go_sem] run_store_float
set_option maxHeartbeats 6400000
set_option maxRecDepth 100000
theorem nb_len (ns : List Nd) (ls : List Lk) (id : Int) (g : Good ns ls) : (nbL ns ls id).length ≤ 256 := by
  unfold nbL
  split
  · exact Nat.le_trans (List.length_filterMap_le _ _) g.n
  · exact Nat.zero_le _
theorem samelinks_eq (A A' : Option Addr) (m c c' : Nat) (ls : List Lk) (w : World) (hl : GL w w.heap.size A m ls) (hl' : GL w w.heap.size A' m ls) (hm : m ≤ 1152921504606846976) :
    Calls Try.prog 25 #[.slice A m c, .slice A' m c'] w fun e w' => e = .returned (.bool true) ∧ Below w.heap.size w w' := by
  have hgn : GN w w.heap.size none 0 [] := GN.of_own (base := 0) (e := 52) (c := 0) (World.ownsRow_nil _ _ _ _)
  have HS := Lib.hid (same_eq none A none A' 0 0 m c 0 c' [] ls w hgn hl hgn hl' (by decide) hm)
  clear hgn hl hl'
  go_enter Try.func25, Try.ntmps25
  go_wp2_with (fail)
  refine HS.out.mono ?_
  rintro e w2 ⟨rfl, hb⟩
  go_wp2_with (fail)
  go_ret
  exact ⟨rfl, hb⟩
theorem GraphNeighbours_walk (A A2 : Option Addr) (n c m c2 : Nat) (ns : List Nd) (ls : List Lk) (id : Int) (w : World) (hg : GN w w.heap.size A n ns) (hl : GL w w.heap.size A2 m ls) (hw : ∀ i, i < m → (lkA ls i).w < 18446744073709551616) (hn : n * 16 ≤ 140737488355328) (hm : m * 32 ≤ 140737488355328) (hi : (Lit.int IntKind.i64 id).wf = true) :
    Calls Try.prog 8 #[.agg #[.slice A n c, .slice A2 m c2], .int .i64 id] w fun e w' => e = .returned (.bool true) ∧ Below w.heap.size w w' := by
  have HN := Lib.hid hg
  have HL := Lib.hid hl
  have HW := Lib.hid hw
  obtain ⟨E, hE⟩ : ∃ E, E = nbE ns ls id := ⟨_, rfl⟩
  obtain ⟨LS, hLS⟩ : ∃ E, E = nbL ns ls id := ⟨_, rfl⟩
  have HGN := Lib.hid (fun B d B2 d2 w' (h1 : GN w' w'.heap.size B n ns) (h2 : GL w' w'.heap.size B2 m ls) => (by have q := gnb_any B B2 n d m d2 id ns ls w' h1 h2 hw (by omega) (by omega) (fun g => sortsLk_any g); rw [← hE, ← hLS] at q; exact q : Calls Try.prog 23 #[.agg #[.slice B n d, .slice B2 m d2], .int .i64 id] w' fun e w'' => ∃ B k d, e = .returned (.tuple #[.slice B k d, .int .i64 E]) ∧ w''.ownsRow w'.heap.size 54 4 (.slice B k d) k (LS.flatMap lkC) ∧ Below w'.heap.size w' w''))
  have HRN := Lib.hid (fun B d B2 d2 w' (h1 : GN w' w'.heap.size B n ns) (h2 : GL w' w'.heap.size B2 m ls) => (by have q := rnb_any B B2 n d m d2 id ns ls w' h1 h2 hw (by omega) (by omega); rw [← hE, ← hLS] at q; exact q : Calls Try.prog 24 #[.agg #[.slice B n d, .slice B2 m d2], .int .i64 id] w' fun e w'' => ∃ B k d, e = .returned (.tuple #[.slice B k d, .int .i64 E]) ∧ w''.ownsRow w'.heap.size 54 4 (.slice B k d) k (LS.flatMap lkC) ∧ Below w'.heap.size w' w''))
  have HLEN := Lib.hid (show LS.length ≤ 1152921504606846976 by
    rw [hLS]
    by_cases hc : chkG ns ls = 0
    · exact Nat.le_trans (nb_len ns ls id (good_of hc)) (by decide)
    · unfold nbL nbE
      rw [if_neg hc, if_neg hc]
      exact Nat.zero_le _)
  clear hE hLS hg hl hw
  have hX1 := Go.heap_alloc_new w (.cells #[.slice A n c, .slice A2 m c2] 25)
  have hB3 := (Below.refl w.heap.size w).alloc (Nat.le_refl _) (.cells #[.slice A n c, .slice A2 m c2] 25)
  go_enter Try.func8, Try.ntmps8
  go_upto_region 1 with fail
  generalize w.alloc (.cells #[.slice A n c, .slice A2 m c2] 25) = w1 at *
  generalize hg1 : w.heap.size = g1 at *
  have HY1 := Lib.hid (show GB w1 g1 (.slice A n c) (.slice A2 m c2) from hX1)
  have HB1 := Lib.hid hB3
  have HGE := Lib.hid hg1
  clear hX1 hB3 hg1
  have GAT := Lib.hid (fun w' (h : Below g1 w w') => (by have := HGE.out; subst this; exact ⟨(HN.out.below h).more h.size, (HL.out.below h).more h.size⟩ : GN w' w'.heap.size A n ns ∧ GL w' w'.heap.size A2 m ls))
  have hsz1 : g1 ≤ w1.heap.size := by have := HY1.out.lt; omega
  have e0 := HY1.out.c0.1
  have e1 := HY1.out.c1.1
  go_wp2_with (fail)
  refine (copy_any A A2 n c m c2 ns ls _ (GAT.out _ HB1.out).1 (GAT.out _ HB1.out).2 hn hm).mono ?_
  rintro e w5 ⟨B, d, B2, d2, rfl, o1, o2, hb⟩
  have HB5 := Lib.hid (HB1.out.trans (hb.mono hsz1))
  have HY5 := Lib.hid (HY1.out.below hb HY1.out.lt)
  have HO1 := Lib.hid (GN.of_own o1)
  have HO2 := Lib.hid (GL.of_own o2)
  clear o1 o2 hb e0 e1
  have hsz5 : g1 ≤ w5.heap.size := by have := HY5.out.lt; omega
  go_wp2_with (fail)
  refine (HGN.out B d B2 d2 _ HO1.out HO2.out).mono ?_
  rintro e w6 ⟨B', k', d', rfl, p, hb⟩
  have HB6 := Lib.hid (HB5.out.trans (hb.mono hsz5))
  have HY6 := Lib.hid (HY5.out.below hb HY5.out.lt)
  have HP := Lib.hid (GL.of_own p)
  clear p hb
  have hsz6 : g1 ≤ w6.heap.size := by have := HY6.out.lt; omega
  have e0 := HY6.out.c0.1
  have e1 := HY6.out.c1.1
  go_wp2_with (fail)
  refine (HRN.out A c A2 c2 _ (GAT.out _ HB6.out).1 (GAT.out _ HB6.out).2).mono ?_
  rintro e w7 ⟨B3, k3, d3, rfl, p, hb⟩
  have HB7 := Lib.hid (HB6.out.trans (hb.mono hsz6))
  have HY7 := Lib.hid (HY6.out.below hb HY6.out.lt)
  have HP7 := Lib.hid ((HP.out.below hb).more hb.size)
  have HQ7 := Lib.hid (GL.of_own p)
  clear p hb e0 e1
  have hsz7 : g1 ≤ w7.heap.size := by have := HY7.out.lt; omega
  have hq : k' = k3 := by rw [← HP7.out.1, ← HQ7.out.1]
  subst hq
  have hEE : (E == E) = true := by simp
  go_wp2_with (fail)
  refine (samelinks_eq B' B3 k' d' d3 LS _ HP7.out HQ7.out (by rw [← HP7.out.1]; exact HLEN.out)).mono ?_
  rintro e w9 ⟨rfl, hb⟩
  have HB9 := Lib.hid (HB7.out.trans (hb.mono hsz7))
  clear hb
  go_wp2_with (fail)
  refine (awake_any _).mono ?_
  rintro e w10 ⟨rfl, hb⟩
  go_wp2_with (fail)
  go_ret
  exact ⟨rfl, by have e := HGE.out; subst e; exact HB9.out.trans (hb.mono HB9.out.size)⟩

end Go.Proofs.Ytgmljlgoaifneaa
