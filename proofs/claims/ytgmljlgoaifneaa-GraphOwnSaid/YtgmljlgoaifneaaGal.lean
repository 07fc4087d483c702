/- The walk of graph.apply where the first link is added. Conditions: as each theorem's hypotheses say. -/
import Derived.Test.YtgmljlgoaifneaaGaa
import Derived.Test.YtgmljlgoaifneaaGli
import Derived.Laws.ResultCell
import Derived.Deep.Cut
namespace Go.Proofs.Ytgmljlgoaifneaa
open Go.RowKit Flt Go.Mem Go.Lib
set_option linter.unusedVariables false

attribute [local go_sem] run_store_float run_store_func
set_option maxHeartbeats 3200000
set_option maxRecDepth 100000
theorem applyLink_any (A : Option Addr) (n c base : Nat) (a b mn mx : Int) (x : Nat) (ns : List Nd) (w : World) (hown : w.ownsRow base 52 3 (.slice A n c) n (ns.flatMap ndC)) (hb : base ≤ w.heap.size)
    (hr : Rise ns) (ha : hasN ns a = true) (hbb : hasN ns b = true) (hab : ¬ a = b) (hx : withinI x 4697254411347427328 = 0) (hx64 : x < 18446744073709551616) (hmn : (if b < a then b else a) = mn) (hmx : (if a < b then b else a) = mx) (hn : n ≤ 256) :
    Calls Try.prog 33 #[.agg #[.slice A n c, .slice none 0 0], .agg #[.int .i64 2, .int .i64 a, .int .i64 b, .float .f64 x]] w fun e w' => ∃ A' c', e = .returned (.tuple #[.agg #[.slice A n c, .slice A' 1 c'], .int .i64 0]) ∧ w'.ownsRow base 52 3 (.slice A n c) n (ns.flatMap ndC) ∧ w'.ownsRow base 54 4 (.slice A' 1 c') 1 (lkC ⟨mn, mx, x, true⟩) ∧ Below base w w' := by
  have HO := Lib.hid hown
  have HB0 := Lib.hid hb
  have HR := Lib.hid hr
  have HA := Lib.hid ha
  have HNB := Lib.hid hbb
  have HAB := Lib.hid hab
  have HWX := Lib.hid (And.intro hx hx64)
  have HMM := Lib.hid (And.intro hmn hmx)
  clear hown hr ha hbb hab hx hx64 hmn hmx
  have hbits := bits_ext x
  go_enter Try.func33, Try.ntmps33
  go_wp2_with (fail)
  have hX1 := Go.heap_alloc_new w (.cells #[.slice A n c, (.slice none 0 0)] 25)
  have hX2 := Go.heap_alloc_new (w.alloc (.cells #[.slice A n c, (.slice none 0 0)] 25)) (.cells #[.int .i64 2, .int .i64 a, .int .i64 b, .float .f64 x] 38)
  have hX3 := Go.heap_alloc_new ((w.alloc (.cells #[.slice A n c, (.slice none 0 0)] 25)).alloc (.cells #[.int .i64 2, .int .i64 a, .int .i64 b, .float .f64 x] 38)) (.cells #[.slice none 0 0, .slice none 0 0] 25)
  have hB3 := (((Below.refl w.heap.size w).alloc (Nat.le_refl _) (.cells #[.slice A n c, (.slice none 0 0)] 25)).alloc (by simp) (.cells #[.int .i64 2, .int .i64 a, .int .i64 b, .float .f64 x] 38)).alloc (by simp; omega) (.cells #[.slice none 0 0, .slice none 0 0] 25)
  have hx1 : (((w.alloc (.cells #[.slice A n c, (.slice none 0 0)] 25)).alloc (.cells #[.int .i64 2, .int .i64 a, .int .i64 b, .float .f64 x] 38)).alloc (.cells #[.slice none 0 0, .slice none 0 0] 25)).heap[w.heap.size]? = _ := (Go.heap_alloc_old _ _ (by simp; omega)).trans ((Go.heap_alloc_old _ _ (by simp)).trans hX1)
  have hx2 : (((w.alloc (.cells #[.slice A n c, (.slice none 0 0)] 25)).alloc (.cells #[.int .i64 2, .int .i64 a, .int .i64 b, .float .f64 x] 38)).alloc (.cells #[.slice none 0 0, .slice none 0 0] 25)).heap[w.heap.size + 1]? = some (.cells #[.int .i64 2, .int .i64 a, .int .i64 b, .float .f64 x] 38 (0, 0)) := by
    rw [Go.heap_alloc_old _ _ (by simp)]
    rw [show (w.alloc (.cells #[.slice A n c, (.slice none 0 0)] 25)).heap.size = w.heap.size + 1 by simp] at hX2; exact hX2
  have hx3 : (((w.alloc (.cells #[.slice A n c, (.slice none 0 0)] 25)).alloc (.cells #[.int .i64 2, .int .i64 a, .int .i64 b, .float .f64 x] 38)).alloc (.cells #[.slice none 0 0, .slice none 0 0] 25)).heap[w.heap.size + 1 + 1]? = some (.cells #[.slice none 0 0, .slice none 0 0] 25 (0, 0)) := by
    rw [show ((w.alloc (.cells #[.slice A n c, (.slice none 0 0)] 25)).alloc (.cells #[.int .i64 2, .int .i64 a, .int .i64 b, .float .f64 x] 38)).heap.size = w.heap.size + 1 + 1 by simp] at hX3; exact hX3
  clear hX1 hX2 hX3
  generalize ((w.alloc (.cells #[.slice A n c, (.slice none 0 0)] 25)).alloc (.cells #[.int .i64 2, .int .i64 a, .int .i64 b, .float .f64 x] 38)).alloc (.cells #[.slice none 0 0, .slice none 0 0] 25) = w0 at *
  generalize hg3 : w.heap.size + 1 + 1 = g3 at *
  generalize hg2 : w.heap.size + 1 = g2 at *
  have HX1 := Lib.hid (show GB w0 w.heap.size (.slice A n c) (.slice none 0 0) from hx1)
  have HX3 := Lib.hid (show GB w0 g3 (.slice none 0 0) (.slice none 0 0) from hx3)
  have HX2 := Lib.hid hx2
  have HB3 := Lib.hid hB3
  have HGG := Lib.hid (show g2 = w.heap.size + 1 ∧ g3 = w.heap.size + 2 from ⟨by omega, by omega⟩)
  have y0 : w0.cell? ⟨g2, 0, none⟩ = some (.int .i64 2) := (Go.cell_of_row w0 g2 0 _ _ _ hx2).trans rfl
  have y1 : w0.cell? ⟨g2, 1, none⟩ = some (.int .i64 a) := (Go.cell_of_row w0 g2 1 _ _ _ hx2).trans rfl
  have y2 : w0.cell? ⟨g2, 2, none⟩ = some (.int .i64 b) := (Go.cell_of_row w0 g2 2 _ _ _ hx2).trans rfl
  have y3 : w0.cell? ⟨g2, 3, none⟩ = some (.float .f64 x) := (Go.cell_of_row w0 g2 3 _ _ _ hx2).trans rfl
  have hB := Below.refl w0.heap.size w0
  have hBd := hB.drew
  have hmtu := Try.underlying76
  clear hx1 hx2 hx3 hB3 hg2 hg3
  have y0a := fun o => alloc_keep y0 o
  go_upto_region 1 with fail
  go_cut [6, 7] from 6 (fun pv tv wx => ∃ t6, pv = .pointer (some ⟨t6, 0, none⟩) ∧ tv = .bool true ∧ Hid (wx.heap[t6]? = some (.cells #[.int .i64 3, .func (.func 67) #[] #[]] 74 (0, 0))) ∧ Hid (w0.heap.size ≤ t6) ∧ Hid (Below w0.heap.size w0 wx))
  case first =>
    go_region_law (first | (go_simp; go_at_call 50; refine (deeds_any _).mono ?_; rintro e w5 ⟨mb, h4, h5, h6, h7, h8, h9, rfl, hm, _, _, _, _, _, _, _, hb5⟩; have hlk := run_lookup_known_ok (P := Try.prog) (w := w5) (z := .agg #[.int .i64 0, .nilFunc]) Try.underlying76 Try.underlying3 hm (run_checkKey_int Try.underlying3 false 9999 2) (by kernel_rfl) (r := some (1, .agg #[.int .i64 3, .func (.func 67) #[] #[]])) (by rfl); have hlk2 := fun o => run_lookup_known_ok (P := Try.prog) (w := w5.alloc o) (z := .agg #[.int .i64 0, .nilFunc]) Try.underlying76 Try.underlying3 ((Go.heap_alloc_old w5 o (lt_of_heap hm)).trans hm) (run_checkKey_int Try.underlying3 false 9999 2) (by kernel_rfl) (r := some (1, .agg #[.int .i64 3, .func (.func 67) #[] #[]])) (by rfl); have v0 : w5.cell? ⟨g2, 0, none⟩ = some (.int .i64 2) := (by first | exact keep_cellG (w := w0.drew) y0 hb5 | exact keep_cellG (w := w0.drew.alloc _) (alloc_keep (w := w0.drew) y0 _) hb5 | exact keep_cellG (w := (w0.alloc _).drew) (alloc_keep y0 _) hb5); have v0a := fun o => alloc_keep v0 o; have HB5 : Hid (Below w0.heap.size w0 w5) := (by first | exact Lib.hid ((below_drewN (Below.refl w0.heap.size w0) 1).trans (hb5.mono (Nat.le_refl _))) | exact Lib.hid ((below_drewN ((Below.refl w0.heap.size w0).alloc (Nat.le_refl _) _) 1).trans (hb5.mono (by simp)))); have HM5 := Lib.hid hm; clear hm; (first | (change Below ((w0.alloc (.cells #[.int .i64 0, .nilFunc] 74)).drew).heap.size ((w0.alloc (.cells #[.int .i64 0, .nilFunc] 74)).drew) w5 at hb5; have kk := zero_keep hb5; obtain ⟨k0, k1, k2, k3, k4⟩ := kk; have K4 := Lib.hid k4; clear k4) | skip)))
    all_goals
      go_wp2_with (fail)
      go_meet
      case rel => first
        | exact ⟨_, rfl, rfl, Lib.hid (Go.heap_alloc_new _ _), Lib.hid (by have := HB5.out.size; omega), Lib.hid (HB5.out.alloc HB5.out.size _)⟩
        | exact ⟨_, rfl, rfl, Lib.hid ((Go.heap_setCell_same _ _ _ _ _ _ (Go.heap_setCell_same _ _ _ _ _ _ K4.out)).trans rfl), Lib.hid (Nat.le_refl _), Lib.hid ((HB5.out.setCell (p := ⟨w0.heap.size, 0, none⟩) (Nat.le_refl _) _).setCell (p := ⟨w0.heap.size, 1, none⟩) (Nat.le_refl _) _)⟩
  case rest =>
    obtain ⟨t6, rfl, rfl, HT6, HL6, HB6⟩ := hcut
    have s0 := (Go.cell_of_row wc t6 0 _ _ _ HT6.out).trans rfl
    have s1 := (Go.cell_of_row wc t6 1 _ _ _ HT6.out).trans rfl
    have r0 := keep_cellG y0 HB6.out
    have r1 := keep_cellG y1 HB6.out
    have r2 := keep_cellG y2 HB6.out
    have r3 := keep_cellG y3 HB6.out
    have HX1c := Lib.hid (HX1.out.below HB6.out HX1.out.lt)
    have HX3c := Lib.hid (HX3.out.below HB6.out HX3.out.lt)
    have b0 := HX1c.out.c0.1
    have b1 := HX1c.out.c1.1
    have s1a := fun o => alloc_keep s1 o
    clear y0 y1 y2 y3 y0a hB hBd hmtu
    have HOB := Lib.hid (HB3.out.trans (HB6.out.mono HB3.out.size))
    have HCBc := Lib.hid (show CB (wc.alloc (.cells #[.slice A n c, (.slice none 0 0), .int .i64 2, .int .i64 a, .int .i64 b, .float .f64 x] 82)) wc.heap.size (.slice A n c) (.slice none 0 0) 2 a b x from Go.heap_alloc_new wc _)
    have HOc := Lib.hid (World.ownsRow.alloc (own_below HO.out HOB.out) (.cells #[.slice A n c, (.slice none 0 0), .int .i64 2, .int .i64 a, .int .i64 b, .float .f64 x] 82))
    have HSZ := Lib.hid (show base ≤ wc.heap.size from Nat.le_trans HB0.out HOB.out.size)
    have HB7 := Lib.hid ((HOB.out.mono HB0.out).alloc HSZ.out (.cells #[.slice A n c, (.slice none 0 0), .int .i64 2, .int .i64 a, .int .i64 b, .float .f64 x] 82))
    have HB7S := Lib.hid (show base ≤ (wc.alloc (.cells #[.slice A n c, (.slice none 0 0), .int .i64 2, .int .i64 a, .int .i64 b, .float .f64 x] 82)).heap.size from Nat.le_trans HSZ.out ((Below.refl _ _).alloc (Nat.le_refl _) _).size)
    have HX3d := Lib.hid (show GB (wc.alloc (.cells #[.slice A n c, (.slice none 0 0), .int .i64 2, .int .i64 a, .int .i64 b, .float .f64 x] 82)) g3 (.slice none 0 0) (.slice none 0 0) from (Go.heap_alloc_old wc _ HX3c.out.lt).trans HX3c.out)
    go_wp2_with (fail)
    refine (linkM_any A n c base wc.heap.size 2 a b mn mx x ns _ HCBc.out HOc.out HB7S.out HSZ.out HR.out HA.out HNB.out HAB.out HWX.out.1 HWX.out.2 HMM.out.1 HMM.out.2 hn).mono ?_
    rintro e w8 ⟨A', c', rfl, hcb8, hn8, ho8, hb8, hk8⟩
    have HC8 := Lib.hid hcb8
    have HN8 := Lib.hid hn8
    have HO8 := Lib.hid ho8
    have HB8 := Lib.hid (HB7.out.trans (hb8.mono (Nat.le_refl _)))
    have HX8 := Lib.hid (show GB w8 g3 (.slice none 0 0) (.slice none 0 0) from (hk8 g3 HX3d.out.lt (by have := HX3c.out.lt; omega)).trans HX3d.out)
    obtain ⟨n0, _⟩ := HC8.out.c0
    obtain ⟨n1, _⟩ := HC8.out.c1
    obtain ⟨m0, k0⟩ := HX8.out.c0
    obtain ⟨m1, k1⟩ := HX8.out.c1
    clear hcb8 hn8 ho8 hb8 hk8 s0 s1 r0 r1 r2 r3 b0 b1 s1a
    have hg3b : base ≤ g3 := by have := HGG.out; have := HB0.out; omega
    go_wp2_with (fail)
    refine bodyPost_ret (ret_graph2 rfl _ _ _ rfl rfl ((HX8.out.s0 (.slice A n c)).s1 (.slice A' 1 c'))) rfl ?_
    exact ⟨A', c', rfl, own_set2 (own_set2 HN8.out (own_neG HN8.out HX8.out (by decide))) (own_neG HN8.out HX8.out (by decide)), own_set2 (own_set2 HO8.out (own_neG HO8.out HX8.out (by decide))) (own_neG HO8.out HX8.out (by decide)), (HB8.out.setCell (p := ⟨g3, 0, none⟩) hg3b _).setCell (p := ⟨g3, 1, none⟩) hg3b _⟩

end Go.Proofs.Ytgmljlgoaifneaa
