/- The walk of the law on graphs' checks. Conditions: the argument reads as a graph. -/
import Derived.Test.YtgmljlgoaifneaaGaw
import Derived.Test.YtgmljlgoaifneaaGop
import Derived.Deep.RegionHeld3
namespace Go.Proofs.Ytgmljlgoaifneaa
open Go.RowKit Flt Go.Mem Go.Lib
set_option linter.unusedVariables false

attribute [local go_sem] run_store_float
set_option maxHeartbeats 3200000
set_option maxRecDepth 100000
theorem heldS {w1 w' : World} {a b : Prop} (h : a ∧ b ∧ Below w1.heap.size w1 w') : Below w1.heap.size w1 w' := h.2.2
theorem keepS {w1 w' w2 : World} {g : Nat} {u v : Value} (h : w'.cell? ⟨g, 0, none⟩ = some u ∧ w'.cell? ⟨g, 1, none⟩ = some v ∧ Below w1.heap.size w1 w') (hb : Below w'.heap.size w' w2) : w2.cell? ⟨g, 0, none⟩ = some u ∧ w2.cell? ⟨g, 1, none⟩ = some v ∧ Below w1.heap.size w1 w2 :=
  ⟨keep_cellG h.1 hb, keep_cellG h.2.1 hb, h.2.2.trans (hb.mono h.2.2.size)⟩
theorem GraphChecks_walk (A A2 : Option Addr) (n c m c2 : Nat) (ns : List Nd) (ls : List Lk) (w : World) (hg : GN w w.heap.size A n ns) (hl : GL w w.heap.size A2 m ls) (hw : ∀ i, i < m → (lkA ls i).w < 18446744073709551616) (hn : n * 16 ≤ 140737488355328) (hm : m * 32 ≤ 140737488355328) :
    Calls Try.prog 3 #[.agg #[.slice A n c, .slice A2 m c2]] w fun e w' => e = .returned (.bool true) ∧ Below w.heap.size w w' := by
  have HW := Lib.hid hw
  have hX := Go.heap_alloc_new w (.cells #[.slice A n c, .slice A2 m c2] 25)
  have HB1 := Lib.hid ((Below.refl w.heap.size w).alloc (Nat.le_refl _) (.cells #[.slice A n c, .slice A2 m c2] 25))
  have hGX := Lib.hid (hg.below HB1.out)
  have hLX := Lib.hid (hl.below HB1.out)
  clear hw hg hl
  go_enter Try.func3, Try.ntmps3
  go_wp2_with (fail)
  generalize w.alloc (.cells #[.slice A n c, .slice A2 m c2] 25) = w1 at *
  have hX' : GB w1 w.heap.size (.slice A n c) (.slice A2 m c2) := hX
  obtain ⟨p0, _⟩ := hX'.c0
  obtain ⟨p1, _⟩ := hX'.c1
  have GAT := Lib.hid (fun w' (h : Below w1.heap.size w1 w') => (⟨((hGX.out.more HB1.out.size).below h).more h.size, ((hLX.out.more HB1.out.size).below h).more h.size⟩ : GN w' w'.heap.size A n ns ∧ GL w' w'.heap.size A2 m ls))
  have hS0 := (Below.refl w1.heap.size w1).drew
  clear hX hX'
  go_region_held3 (fun w' => w'.cell? ⟨w.heap.size, 0, none⟩ = some (.slice A n c) ∧ w'.cell? ⟨w.heap.size, 1, none⟩ = some (.slice A2 m c2) ∧ Below w1.heap.size w1 w')
    (first | exact keepS (by assumption) hb | exact ⟨p0, p1, hS0⟩ | go_keep)
    (first
      | (go_at_call 11; refine (copy_any A A2 n c m c2 ns ls _ (GAT.out _ (heldS (by assumption))).1 (GAT.out _ (heldS (by assumption))).2 hn hm).mono ?_; rintro e w5 ⟨B, d, B2, d2, rfl, o1, o2, hb⟩; have HO1 := Lib.hid (GN.of_own o1); have HO2 := Lib.hid (GL.of_own o2); clear o1 o2)
      | (go_at_call 10; refine (check_any B B2 n d m d2 ns ls _ HO1.out HO2.out HW.out (by omega) (by omega)).mono ?_; rintro e w6 ⟨rfl, hb⟩)
      | (go_at_call 12; refine (rcheck_any A A2 n c m c2 ns ls _ (GAT.out _ (heldS (by assumption))).1 (GAT.out _ (heldS (by assumption))).2 HW.out (by omega) (by omega)).mono ?_; rintro e w7 ⟨rfl, hb⟩)
      | (go_at_call 13; refine (awake_any _).mono ?_; rintro e w8 ⟨rfl, hb⟩))
  all_goals
    go_wp2_with (fail)
    go_ret
    exact ⟨rfl, HB1.out.trans ((heldS (by assumption)).mono HB1.out.size)⟩

end Go.Proofs.Ytgmljlgoaifneaa
