/- The walk of graph.apply, kind by kind of change. Conditions: as each theorem's hypotheses say. -/
import Derived.Test.YtgmljlgoaifneaaGdz
import Derived.Laws.ResultCell
import Derived.Deep.Cut
namespace Go.Proofs.Ytgmljlgoaifneaa
open Go.RowKit Flt Go.Mem Go.Lib
set_option linter.unusedVariables false

attribute [local go_sem] run_store_float run_store_func
set_option maxHeartbeats 3200000
set_option maxRecDepth 100000
set_option maxHeartbeats 6400000 in
theorem apply8_any (A A2 : Option Addr) (n c m c2 base : Nat) (a b : Int) (x : Nat) (ns : List Nd) (ls : List Lk) (w : World) (hn : w.ownsRow base 52 3 (.slice A n c) n (ns.flatMap ndC)) (hl : w.ownsRow base 54 4 (.slice A2 m c2) m (ls.flatMap lkC)) (hb : base ≤ w.heap.size) (hG : Good ns ls) (hx64 : x < 18446744073709551616) (E : Int) (NS : List Nd) (LS : List Lk) (hE : E = apE ns ls 8 a b x) (hNS : NS = apN ns ls 8 a b x) (hLS : LS = apL ns ls 8 a b x) :
    Calls Try.prog 33 #[.agg #[.slice A n c, .slice A2 m c2], .agg #[.int .i64 8, .int .i64 a, .int .i64 b, .float .f64 x]] w (APost base A A2 n c m c2 E NS LS w) := by
  have HO := Lib.hid hn
  have HOL := Lib.hid hl
  have HB0 := Lib.hid hb
  have HGD := Lib.hid hG
  have HE := Lib.hid hE
  have HNS := Lib.hid hNS
  have HLS := Lib.hid hLS
  have HX64 := Lib.hid hx64
  clear hn hl hb hG hE hNS hLS hx64
  have hbits := bits_ext x
  go_enter Try.func33, Try.ntmps33
  go_wp2_with (fail)
  have hX1 := Go.heap_alloc_new w (.cells #[.slice A n c, (.slice A2 m c2)] 25)
  have hX2 := Go.heap_alloc_new (w.alloc (.cells #[.slice A n c, (.slice A2 m c2)] 25)) (.cells #[.int .i64 8, .int .i64 a, .int .i64 b, .float .f64 x] 38)
  have hX3 := Go.heap_alloc_new ((w.alloc (.cells #[.slice A n c, (.slice A2 m c2)] 25)).alloc (.cells #[.int .i64 8, .int .i64 a, .int .i64 b, .float .f64 x] 38)) (.cells #[.slice none 0 0, .slice none 0 0] 25)
  have hB3 := (((Below.refl w.heap.size w).alloc (Nat.le_refl _) (.cells #[.slice A n c, (.slice A2 m c2)] 25)).alloc (by simp) (.cells #[.int .i64 8, .int .i64 a, .int .i64 b, .float .f64 x] 38)).alloc (by simp; omega) (.cells #[.slice none 0 0, .slice none 0 0] 25)
  have hx1 : (((w.alloc (.cells #[.slice A n c, (.slice A2 m c2)] 25)).alloc (.cells #[.int .i64 8, .int .i64 a, .int .i64 b, .float .f64 x] 38)).alloc (.cells #[.slice none 0 0, .slice none 0 0] 25)).heap[w.heap.size]? = _ := (Go.heap_alloc_old _ _ (by simp; omega)).trans ((Go.heap_alloc_old _ _ (by simp)).trans hX1)
  have hx2 : (((w.alloc (.cells #[.slice A n c, (.slice A2 m c2)] 25)).alloc (.cells #[.int .i64 8, .int .i64 a, .int .i64 b, .float .f64 x] 38)).alloc (.cells #[.slice none 0 0, .slice none 0 0] 25)).heap[w.heap.size + 1]? = some (.cells #[.int .i64 8, .int .i64 a, .int .i64 b, .float .f64 x] 38 (0, 0)) := by
    rw [Go.heap_alloc_old _ _ (by simp)]
    rw [show (w.alloc (.cells #[.slice A n c, (.slice A2 m c2)] 25)).heap.size = w.heap.size + 1 by simp] at hX2; exact hX2
  have hx3 : (((w.alloc (.cells #[.slice A n c, (.slice A2 m c2)] 25)).alloc (.cells #[.int .i64 8, .int .i64 a, .int .i64 b, .float .f64 x] 38)).alloc (.cells #[.slice none 0 0, .slice none 0 0] 25)).heap[w.heap.size + 1 + 1]? = some (.cells #[.slice none 0 0, .slice none 0 0] 25 (0, 0)) := by
    rw [show ((w.alloc (.cells #[.slice A n c, (.slice A2 m c2)] 25)).alloc (.cells #[.int .i64 8, .int .i64 a, .int .i64 b, .float .f64 x] 38)).heap.size = w.heap.size + 1 + 1 by simp] at hX3; exact hX3
  clear hX1 hX2 hX3
  generalize ((w.alloc (.cells #[.slice A n c, (.slice A2 m c2)] 25)).alloc (.cells #[.int .i64 8, .int .i64 a, .int .i64 b, .float .f64 x] 38)).alloc (.cells #[.slice none 0 0, .slice none 0 0] 25) = w0 at *
  generalize hg3 : w.heap.size + 1 + 1 = g3 at *
  generalize hg2 : w.heap.size + 1 = g2 at *
  have HX1 := Lib.hid (show GB w0 w.heap.size (.slice A n c) (.slice A2 m c2) from hx1)
  have HX3 := Lib.hid (show GB w0 g3 (.slice none 0 0) (.slice none 0 0) from hx3)
  have HX2 := Lib.hid hx2
  have HB3 := Lib.hid hB3
  have HGG := Lib.hid (show g2 = w.heap.size + 1 ∧ g3 = w.heap.size + 2 from ⟨by omega, by omega⟩)
  have y0 : w0.cell? ⟨g2, 0, none⟩ = some (.int .i64 8) := (Go.cell_of_row w0 g2 0 _ _ _ hx2).trans rfl
  have y1 : w0.cell? ⟨g2, 1, none⟩ = some (.int .i64 a) := (Go.cell_of_row w0 g2 1 _ _ _ hx2).trans rfl
  have y2 : w0.cell? ⟨g2, 2, none⟩ = some (.int .i64 b) := (Go.cell_of_row w0 g2 2 _ _ _ hx2).trans rfl
  have y3 : w0.cell? ⟨g2, 3, none⟩ = some (.float .f64 x) := (Go.cell_of_row w0 g2 3 _ _ _ hx2).trans rfl
  have hB := Below.refl w0.heap.size w0
  have hBd := hB.drew
  have hmtu := Try.underlying76
  clear hx1 hx2 hx3 hB3 hg2 hg3
  have y0a := fun o => alloc_keep y0 o
  go_upto_region 1 with fail
  go_cut [6, 7] from 6 (fun pv tv wx => ∃ t6 hc, pv = .pointer (some ⟨t6, 0, none⟩) ∧ tv = .bool true ∧ Hid (wx.heap[t6]? = some (.cells #[.int .i64 1, .func (.func 91) #[] #[.pointer (some ⟨hc, 0, none⟩)]] 74 (0, 0))) ∧ Hid (w0.heap.size ≤ t6) ∧ Hid (Below w0.heap.size w0 wx) ∧ Hid (wx.cell? ⟨hc, 0, none⟩ = some (.func (.func 73) #[] #[])))
  case first =>
    go_region_law (first | (go_simp; go_at_call 50; refine (deeds_any _).mono ?_; rintro e w5 ⟨mb, h4, h5, h6, h7, h8, h9, rfl, hm, _, _, _, _, hcv, _, _, hb5⟩; have HCV := Lib.hid hcv; have hlk := run_lookup_known_ok (P := Try.prog) (w := w5) (z := .agg #[.int .i64 0, .nilFunc]) Try.underlying76 Try.underlying3 hm (run_checkKey_int Try.underlying3 false 9999 8) (by kernel_rfl) (r := some (7, .agg #[.int .i64 1, .func (.func 91) #[] #[.pointer (some ⟨h8, 0, none⟩)]])) (by rfl); have hlk2 := fun o => run_lookup_known_ok (P := Try.prog) (w := w5.alloc o) (z := .agg #[.int .i64 0, .nilFunc]) Try.underlying76 Try.underlying3 ((Go.heap_alloc_old w5 o (lt_of_heap hm)).trans hm) (run_checkKey_int Try.underlying3 false 9999 8) (by kernel_rfl) (r := some (7, .agg #[.int .i64 1, .func (.func 91) #[] #[.pointer (some ⟨h8, 0, none⟩)]])) (by rfl); have v0 : w5.cell? ⟨g2, 0, none⟩ = some (.int .i64 8) := (by first | exact keep_cellG (w := w0.drew) y0 hb5 | exact keep_cellG (w := w0.drew.alloc _) (alloc_keep (w := w0.drew) y0 _) hb5 | exact keep_cellG (w := (w0.alloc _).drew) (alloc_keep y0 _) hb5); have v0a := fun o => alloc_keep v0 o; have HB5 : Hid (Below w0.heap.size w0 w5) := (by first | exact Lib.hid ((below_drewN (Below.refl w0.heap.size w0) 1).trans (hb5.mono (Nat.le_refl _))) | exact Lib.hid ((below_drewN ((Below.refl w0.heap.size w0).alloc (Nat.le_refl _) _) 1).trans (hb5.mono (by simp)))); have HM5 := Lib.hid hm; clear hm hcv; (first | (change Below ((w0.alloc (.cells #[.int .i64 0, .nilFunc] 74)).drew).heap.size ((w0.alloc (.cells #[.int .i64 0, .nilFunc] 74)).drew) w5 at hb5; have kk := zero_keep hb5; obtain ⟨k0, k1, k2, k3, k4⟩ := kk; have K4 := Lib.hid k4; clear k4) | skip)))
    all_goals
      go_wp2_with (fail)
      go_meet
      case rel => first
        | exact ⟨_, _, rfl, rfl, Lib.hid (Go.heap_alloc_new _ _), Lib.hid (by have := HB5.out.size; omega), Lib.hid (HB5.out.alloc HB5.out.size _), Lib.hid (alloc_keep HCV.out _)⟩
        | (have HNE6 : (⟨h8, 0, none⟩ : Addr).block ≠ (⟨w0.heap.size, 0, none⟩ : Addr).block := (fun e => by have e' : h8 = w0.heap.size := e; have q := HCV.out; rw [e', (Go.cell_of_row _ w0.heap.size 0 _ _ _ K4.out)] at q; simp at q); exact ⟨_, _, rfl, rfl, Lib.hid ((Go.heap_setCell_same _ _ _ _ _ _ (Go.heap_setCell_same _ _ _ _ _ _ K4.out)).trans rfl), Lib.hid (Nat.le_refl _), Lib.hid ((HB5.out.setCell (p := ⟨w0.heap.size, 0, none⟩) (Nat.le_refl _) _).setCell (p := ⟨w0.heap.size, 1, none⟩) (Nat.le_refl _) _), Lib.hid (cell_other (cell_other HCV.out HNE6) HNE6)⟩)
  case rest =>
    obtain ⟨t6, hc, rfl, rfl, HT6, HL6, HB6, HCC⟩ := hcut
    have s0 := (Go.cell_of_row wc t6 0 _ _ _ HT6.out).trans rfl
    have s1 := (Go.cell_of_row wc t6 1 _ _ _ HT6.out).trans rfl
    have r0 := keep_cellG y0 HB6.out
    have r1 := keep_cellG y1 HB6.out
    have r2 := keep_cellG y2 HB6.out
    have r3 := keep_cellG y3 HB6.out
    have HX1c := Lib.hid (HX1.out.below HB6.out HX1.out.lt)
    have HX3c := Lib.hid (HX3.out.below HB6.out HX3.out.lt)
    have b0 := HX1c.out.c0.1
    have b1 := HX1c.out.c1.1
    have s1a := fun o => alloc_keep s1 o
    clear y0 y1 y2 y3 y0a hB hBd hmtu
    have HOB := Lib.hid (HB3.out.trans (HB6.out.mono HB3.out.size))
    have HCBc := Lib.hid (show CB (wc.alloc (.cells #[.slice A n c, (.slice A2 m c2), .int .i64 8, .int .i64 a, .int .i64 b, .float .f64 x] 82)) wc.heap.size (.slice A n c) (.slice A2 m c2) 8 a b x from Go.heap_alloc_new wc _)
    have HOc := Lib.hid (World.ownsRow.alloc (own_below HO.out HOB.out) (.cells #[.slice A n c, (.slice A2 m c2), .int .i64 8, .int .i64 a, .int .i64 b, .float .f64 x] 82))
    have HLc := Lib.hid (World.ownsRow.alloc (own_below HOL.out HOB.out) (.cells #[.slice A n c, (.slice A2 m c2), .int .i64 8, .int .i64 a, .int .i64 b, .float .f64 x] 82))
    have HSZ := Lib.hid (show base ≤ wc.heap.size from Nat.le_trans HB0.out HOB.out.size)
    have HB7 := Lib.hid ((HOB.out.mono HB0.out).alloc HSZ.out (.cells #[.slice A n c, (.slice A2 m c2), .int .i64 8, .int .i64 a, .int .i64 b, .float .f64 x] 82))
    have HB7S := Lib.hid (show base ≤ (wc.alloc (.cells #[.slice A n c, (.slice A2 m c2), .int .i64 8, .int .i64 a, .int .i64 b, .float .f64 x] 82)).heap.size from Nat.le_trans HSZ.out ((Below.refl _ _).alloc (Nat.le_refl _) _).size)
    have HX3d := Lib.hid (show GB (wc.alloc (.cells #[.slice A n c, (.slice A2 m c2), .int .i64 8, .int .i64 a, .int .i64 b, .float .f64 x] 82)) g3 (.slice none 0 0) (.slice none 0 0) from (Go.heap_alloc_old wc _ HX3c.out.lt).trans HX3c.out)
    have HCD := Lib.hid (alloc_keep HCC.out (.cells #[.slice A n c, (.slice A2 m c2), .int .i64 8, .int .i64 a, .int .i64 b, .float .f64 x] 82))
    have HX3L := HX3c.out.lt
    have hg3b : base ≤ g3 := by have := HGG.out; have := HB0.out; omega
    obtain ⟨m0e, k0e⟩ := HX3c.out.c0
    obtain ⟨m1e, k1e⟩ := HX3c.out.c1
    by_cases hb0 : b = 0
    · subst hb0
      by_cases hx0 : x = 0
      · subst hx0
        have hbare : bareB 8 0 0 = true := by unfold bareB; simp
        have eqv : ls = LS := Eq.symm (HLS.out.trans (ap_8 hbare).2.2)
        subst eqv
        go_wp2_with (fail)
        refine (onNodeD8_any A A2 n c m c2 base wc.heap.size 8 a 0 0 ns ls _ HCBc.out HOc.out HLc.out HB7S.out HSZ.out HGD.out hc HCD.out E NS (HE.out.trans (ap_8 hbare).1) (HNS.out.trans (ap_8 hbare).2.1)).mono ?_
        rintro e w8 ⟨A', n', c', A2', m', c2', rfl, hcb8, hn8, hl8, hb8, hk8, hs8⟩
        have HS8 := Lib.hid hs8
        have HC8 := Lib.hid hcb8
        have HN8 := Lib.hid hn8
        have HL8 := Lib.hid hl8
        have HB8 := Lib.hid (HB7.out.trans (hb8.mono (Nat.le_refl _)))
        have HK8 := Lib.hid hk8
        have HX8 := Lib.hid (show GB w8 g3 (.slice none 0 0) (.slice none 0 0) from (hk8 g3 HX3d.out.lt (by omega) (fun e => own_neG HOc.out HX3d.out (by decide) e.symm) (fun e => own_neG HLc.out HX3d.out (by decide) e.symm)).trans HX3d.out)
        obtain ⟨n0, _⟩ := HC8.out.c0
        obtain ⟨n1, _⟩ := HC8.out.c1
        obtain ⟨m0, k0⟩ := HX8.out.c0
        obtain ⟨m1, k1⟩ := HX8.out.c1
        clear hcb8 hn8 hl8 hb8 hk8 hs8 s0 s1 r0 r1 r2 r3 b0 b1 s1a m0e m1e k0e k1e
        go_wp2_with (fail)
        refine bodyPost_ret (ret_graph2 rfl _ _ _ rfl rfl ((HX8.out.s0 (.slice A' n' c')).s1 (.slice A2' m' c2'))) rfl ?_
        exact ⟨A', n', c', A2', m', c2', rfl, own_set2 (own_set2 HN8.out (own_neG HN8.out HX8.out (by decide))) (own_neG HN8.out HX8.out (by decide)), own_set2 (own_set2 HL8.out (own_neG HL8.out HX8.out (by decide))) (own_neG HL8.out HX8.out (by decide)), (HB8.out.setCell (p := ⟨g3, 0, none⟩) hg3b _).setCell (p := ⟨g3, 1, none⟩) hg3b _, fun q hq h1 h2 => (Go.heap_setCell_other _ ⟨g3, 1, none⟩ q _ (show q ≠ g3 by have := HGG.out; omega)).trans ((Go.heap_setCell_other _ ⟨g3, 0, none⟩ q _ (show q ≠ g3 by have := HGG.out; omega)).trans ((HK8.out q (Nat.lt_of_lt_of_le (Nat.lt_of_lt_of_le hq HOB.out.size) ((Below.refl _ _).alloc (Nat.le_refl _) _).size) (by have := HOB.out.size; omega) h1 h2).trans ((Go.heap_alloc_old _ _ (Nat.lt_of_lt_of_le hq HOB.out.size)).trans (HOB.out.block q hq)))), HS8.out⟩
      · have hx1 : ¬ ((x : Int) = 0) := by omega
        have hx2 : ((x : Int) != 0) = true := by simp; omega
        have hbare : bareB 8 0 x = false := by unfold bareB; simp [hx0]
        have eqv : 1 = E := Eq.symm (HE.out.trans (ap_bad hbare).1)
        subst eqv
        have eqv : ns = NS := Eq.symm (HNS.out.trans (ap_bad hbare).2.1)
        subst eqv
        have eqv : ls = LS := Eq.symm (HLS.out.trans (ap_bad hbare).2.2)
        subst eqv
        go_wp2_with (fail)
        refine bodyPost_ret (ret_graph2 rfl _ _ _ rfl rfl ((HX3c.out.s0 (.slice A n c)).s1 (.slice A2 m c2))) rfl ?_
        exact ⟨A, n, c, A2, m, c2, rfl, own_set2 (own_set2 (own_below HO.out HOB.out) (own_neG (own_below HO.out HOB.out) HX3c.out (by decide))) (own_neG (own_below HO.out HOB.out) HX3c.out (by decide)), own_set2 (own_set2 (own_below HOL.out HOB.out) (own_neG (own_below HOL.out HOB.out) HX3c.out (by decide))) (own_neG (own_below HOL.out HOB.out) HX3c.out (by decide)), ((HOB.out.mono HB0.out).setCell (p := ⟨g3, 0, none⟩) hg3b _).setCell (p := ⟨g3, 1, none⟩) hg3b _, fun q hq _ _ => (Go.heap_setCell_other _ ⟨g3, 1, none⟩ q _ (show q ≠ g3 by have := HGG.out; omega)).trans ((Go.heap_setCell_other _ ⟨g3, 0, none⟩ q _ (show q ≠ g3 by have := HGG.out; omega)).trans (HOB.out.block q hq)), fun _ => ⟨rfl, rfl, rfl, rfl, rfl, rfl⟩⟩
    · have hb2 : (b != 0) = true := by simp; exact hb0
      have hbare : bareB 8 b x = false := by unfold bareB; simp [hb0]
      have eqv : 1 = E := Eq.symm (HE.out.trans (ap_bad hbare).1)
      subst eqv
      have eqv : ns = NS := Eq.symm (HNS.out.trans (ap_bad hbare).2.1)
      subst eqv
      have eqv : ls = LS := Eq.symm (HLS.out.trans (ap_bad hbare).2.2)
      subst eqv
      go_wp2_with (fail)
      refine bodyPost_ret (ret_graph2 rfl _ _ _ rfl rfl ((HX3c.out.s0 (.slice A n c)).s1 (.slice A2 m c2))) rfl ?_
      exact ⟨A, n, c, A2, m, c2, rfl, own_set2 (own_set2 (own_below HO.out HOB.out) (own_neG (own_below HO.out HOB.out) HX3c.out (by decide))) (own_neG (own_below HO.out HOB.out) HX3c.out (by decide)), own_set2 (own_set2 (own_below HOL.out HOB.out) (own_neG (own_below HOL.out HOB.out) HX3c.out (by decide))) (own_neG (own_below HOL.out HOB.out) HX3c.out (by decide)), ((HOB.out.mono HB0.out).setCell (p := ⟨g3, 0, none⟩) hg3b _).setCell (p := ⟨g3, 1, none⟩) hg3b _, fun q hq _ _ => (Go.heap_setCell_other _ ⟨g3, 1, none⟩ q _ (show q ≠ g3 by have := HGG.out; omega)).trans ((Go.heap_setCell_other _ ⟨g3, 0, none⟩ q _ (show q ≠ g3 by have := HGG.out; omega)).trans (HOB.out.block q hq)), fun _ => ⟨rfl, rfl, rfl, rfl, rfl, rfl⟩⟩
set_option maxHeartbeats 6400000 in
theorem apply9_any (A A2 : Option Addr) (n c m c2 base : Nat) (a b : Int) (x : Nat) (ns : List Nd) (ls : List Lk) (w : World) (hn : w.ownsRow base 52 3 (.slice A n c) n (ns.flatMap ndC)) (hl : w.ownsRow base 54 4 (.slice A2 m c2) m (ls.flatMap lkC)) (hb : base ≤ w.heap.size) (hG : Good ns ls) (hx64 : x < 18446744073709551616) (E : Int) (NS : List Nd) (LS : List Lk) (hE : E = apE ns ls 9 a b x) (hNS : NS = apN ns ls 9 a b x) (hLS : LS = apL ns ls 9 a b x) :
    Calls Try.prog 33 #[.agg #[.slice A n c, .slice A2 m c2], .agg #[.int .i64 9, .int .i64 a, .int .i64 b, .float .f64 x]] w (APost base A A2 n c m c2 E NS LS w) := by
  have HO := Lib.hid hn
  have HOL := Lib.hid hl
  have HB0 := Lib.hid hb
  have HGD := Lib.hid hG
  have HE := Lib.hid hE
  have HNS := Lib.hid hNS
  have HLS := Lib.hid hLS
  have HX64 := Lib.hid hx64
  clear hn hl hb hG hE hNS hLS hx64
  have hbits := bits_ext x
  go_enter Try.func33, Try.ntmps33
  go_wp2_with (fail)
  have hX1 := Go.heap_alloc_new w (.cells #[.slice A n c, (.slice A2 m c2)] 25)
  have hX2 := Go.heap_alloc_new (w.alloc (.cells #[.slice A n c, (.slice A2 m c2)] 25)) (.cells #[.int .i64 9, .int .i64 a, .int .i64 b, .float .f64 x] 38)
  have hX3 := Go.heap_alloc_new ((w.alloc (.cells #[.slice A n c, (.slice A2 m c2)] 25)).alloc (.cells #[.int .i64 9, .int .i64 a, .int .i64 b, .float .f64 x] 38)) (.cells #[.slice none 0 0, .slice none 0 0] 25)
  have hB3 := (((Below.refl w.heap.size w).alloc (Nat.le_refl _) (.cells #[.slice A n c, (.slice A2 m c2)] 25)).alloc (by simp) (.cells #[.int .i64 9, .int .i64 a, .int .i64 b, .float .f64 x] 38)).alloc (by simp; omega) (.cells #[.slice none 0 0, .slice none 0 0] 25)
  have hx1 : (((w.alloc (.cells #[.slice A n c, (.slice A2 m c2)] 25)).alloc (.cells #[.int .i64 9, .int .i64 a, .int .i64 b, .float .f64 x] 38)).alloc (.cells #[.slice none 0 0, .slice none 0 0] 25)).heap[w.heap.size]? = _ := (Go.heap_alloc_old _ _ (by simp; omega)).trans ((Go.heap_alloc_old _ _ (by simp)).trans hX1)
  have hx2 : (((w.alloc (.cells #[.slice A n c, (.slice A2 m c2)] 25)).alloc (.cells #[.int .i64 9, .int .i64 a, .int .i64 b, .float .f64 x] 38)).alloc (.cells #[.slice none 0 0, .slice none 0 0] 25)).heap[w.heap.size + 1]? = some (.cells #[.int .i64 9, .int .i64 a, .int .i64 b, .float .f64 x] 38 (0, 0)) := by
    rw [Go.heap_alloc_old _ _ (by simp)]
    rw [show (w.alloc (.cells #[.slice A n c, (.slice A2 m c2)] 25)).heap.size = w.heap.size + 1 by simp] at hX2; exact hX2
  have hx3 : (((w.alloc (.cells #[.slice A n c, (.slice A2 m c2)] 25)).alloc (.cells #[.int .i64 9, .int .i64 a, .int .i64 b, .float .f64 x] 38)).alloc (.cells #[.slice none 0 0, .slice none 0 0] 25)).heap[w.heap.size + 1 + 1]? = some (.cells #[.slice none 0 0, .slice none 0 0] 25 (0, 0)) := by
    rw [show ((w.alloc (.cells #[.slice A n c, (.slice A2 m c2)] 25)).alloc (.cells #[.int .i64 9, .int .i64 a, .int .i64 b, .float .f64 x] 38)).heap.size = w.heap.size + 1 + 1 by simp] at hX3; exact hX3
  clear hX1 hX2 hX3
  generalize ((w.alloc (.cells #[.slice A n c, (.slice A2 m c2)] 25)).alloc (.cells #[.int .i64 9, .int .i64 a, .int .i64 b, .float .f64 x] 38)).alloc (.cells #[.slice none 0 0, .slice none 0 0] 25) = w0 at *
  generalize hg3 : w.heap.size + 1 + 1 = g3 at *
  generalize hg2 : w.heap.size + 1 = g2 at *
  have HX1 := Lib.hid (show GB w0 w.heap.size (.slice A n c) (.slice A2 m c2) from hx1)
  have HX3 := Lib.hid (show GB w0 g3 (.slice none 0 0) (.slice none 0 0) from hx3)
  have HX2 := Lib.hid hx2
  have HB3 := Lib.hid hB3
  have HGG := Lib.hid (show g2 = w.heap.size + 1 ∧ g3 = w.heap.size + 2 from ⟨by omega, by omega⟩)
  have y0 : w0.cell? ⟨g2, 0, none⟩ = some (.int .i64 9) := (Go.cell_of_row w0 g2 0 _ _ _ hx2).trans rfl
  have y1 : w0.cell? ⟨g2, 1, none⟩ = some (.int .i64 a) := (Go.cell_of_row w0 g2 1 _ _ _ hx2).trans rfl
  have y2 : w0.cell? ⟨g2, 2, none⟩ = some (.int .i64 b) := (Go.cell_of_row w0 g2 2 _ _ _ hx2).trans rfl
  have y3 : w0.cell? ⟨g2, 3, none⟩ = some (.float .f64 x) := (Go.cell_of_row w0 g2 3 _ _ _ hx2).trans rfl
  have hB := Below.refl w0.heap.size w0
  have hBd := hB.drew
  have hmtu := Try.underlying76
  clear hx1 hx2 hx3 hB3 hg2 hg3
  have y0a := fun o => alloc_keep y0 o
  go_upto_region 1 with fail
  go_cut [6, 7] from 6 (fun pv tv wx => ∃ t6 hc, pv = .pointer (some ⟨t6, 0, none⟩) ∧ tv = .bool true ∧ Hid (wx.heap[t6]? = some (.cells #[.int .i64 1, .func (.func 91) #[] #[.pointer (some ⟨hc, 0, none⟩)]] 74 (0, 0))) ∧ Hid (w0.heap.size ≤ t6) ∧ Hid (Below w0.heap.size w0 wx) ∧ Hid (wx.cell? ⟨hc, 0, none⟩ = some (.func (.func 74) #[] #[])))
  case first =>
    go_region_law (first | (go_simp; go_at_call 50; refine (deeds_any _).mono ?_; rintro e w5 ⟨mb, h4, h5, h6, h7, h8, h9, rfl, hm, _, _, _, _, _, hcv, _, hb5⟩; have HCV := Lib.hid hcv; have hlk := run_lookup_known_ok (P := Try.prog) (w := w5) (z := .agg #[.int .i64 0, .nilFunc]) Try.underlying76 Try.underlying3 hm (run_checkKey_int Try.underlying3 false 9999 9) (by kernel_rfl) (r := some (8, .agg #[.int .i64 1, .func (.func 91) #[] #[.pointer (some ⟨h9, 0, none⟩)]])) (by rfl); have hlk2 := fun o => run_lookup_known_ok (P := Try.prog) (w := w5.alloc o) (z := .agg #[.int .i64 0, .nilFunc]) Try.underlying76 Try.underlying3 ((Go.heap_alloc_old w5 o (lt_of_heap hm)).trans hm) (run_checkKey_int Try.underlying3 false 9999 9) (by kernel_rfl) (r := some (8, .agg #[.int .i64 1, .func (.func 91) #[] #[.pointer (some ⟨h9, 0, none⟩)]])) (by rfl); have v0 : w5.cell? ⟨g2, 0, none⟩ = some (.int .i64 9) := (by first | exact keep_cellG (w := w0.drew) y0 hb5 | exact keep_cellG (w := w0.drew.alloc _) (alloc_keep (w := w0.drew) y0 _) hb5 | exact keep_cellG (w := (w0.alloc _).drew) (alloc_keep y0 _) hb5); have v0a := fun o => alloc_keep v0 o; have HB5 : Hid (Below w0.heap.size w0 w5) := (by first | exact Lib.hid ((below_drewN (Below.refl w0.heap.size w0) 1).trans (hb5.mono (Nat.le_refl _))) | exact Lib.hid ((below_drewN ((Below.refl w0.heap.size w0).alloc (Nat.le_refl _) _) 1).trans (hb5.mono (by simp)))); have HM5 := Lib.hid hm; clear hm hcv; (first | (change Below ((w0.alloc (.cells #[.int .i64 0, .nilFunc] 74)).drew).heap.size ((w0.alloc (.cells #[.int .i64 0, .nilFunc] 74)).drew) w5 at hb5; have kk := zero_keep hb5; obtain ⟨k0, k1, k2, k3, k4⟩ := kk; have K4 := Lib.hid k4; clear k4) | skip)))
    all_goals
      go_wp2_with (fail)
      go_meet
      case rel => first
        | exact ⟨_, _, rfl, rfl, Lib.hid (Go.heap_alloc_new _ _), Lib.hid (by have := HB5.out.size; omega), Lib.hid (HB5.out.alloc HB5.out.size _), Lib.hid (alloc_keep HCV.out _)⟩
        | (have HNE6 : (⟨h9, 0, none⟩ : Addr).block ≠ (⟨w0.heap.size, 0, none⟩ : Addr).block := (fun e => by have e' : h9 = w0.heap.size := e; have q := HCV.out; rw [e', (Go.cell_of_row _ w0.heap.size 0 _ _ _ K4.out)] at q; simp at q); exact ⟨_, _, rfl, rfl, Lib.hid ((Go.heap_setCell_same _ _ _ _ _ _ (Go.heap_setCell_same _ _ _ _ _ _ K4.out)).trans rfl), Lib.hid (Nat.le_refl _), Lib.hid ((HB5.out.setCell (p := ⟨w0.heap.size, 0, none⟩) (Nat.le_refl _) _).setCell (p := ⟨w0.heap.size, 1, none⟩) (Nat.le_refl _) _), Lib.hid (cell_other (cell_other HCV.out HNE6) HNE6)⟩)
  case rest =>
    obtain ⟨t6, hc, rfl, rfl, HT6, HL6, HB6, HCC⟩ := hcut
    have s0 := (Go.cell_of_row wc t6 0 _ _ _ HT6.out).trans rfl
    have s1 := (Go.cell_of_row wc t6 1 _ _ _ HT6.out).trans rfl
    have r0 := keep_cellG y0 HB6.out
    have r1 := keep_cellG y1 HB6.out
    have r2 := keep_cellG y2 HB6.out
    have r3 := keep_cellG y3 HB6.out
    have HX1c := Lib.hid (HX1.out.below HB6.out HX1.out.lt)
    have HX3c := Lib.hid (HX3.out.below HB6.out HX3.out.lt)
    have b0 := HX1c.out.c0.1
    have b1 := HX1c.out.c1.1
    have s1a := fun o => alloc_keep s1 o
    clear y0 y1 y2 y3 y0a hB hBd hmtu
    have HOB := Lib.hid (HB3.out.trans (HB6.out.mono HB3.out.size))
    have HCBc := Lib.hid (show CB (wc.alloc (.cells #[.slice A n c, (.slice A2 m c2), .int .i64 9, .int .i64 a, .int .i64 b, .float .f64 x] 82)) wc.heap.size (.slice A n c) (.slice A2 m c2) 9 a b x from Go.heap_alloc_new wc _)
    have HOc := Lib.hid (World.ownsRow.alloc (own_below HO.out HOB.out) (.cells #[.slice A n c, (.slice A2 m c2), .int .i64 9, .int .i64 a, .int .i64 b, .float .f64 x] 82))
    have HLc := Lib.hid (World.ownsRow.alloc (own_below HOL.out HOB.out) (.cells #[.slice A n c, (.slice A2 m c2), .int .i64 9, .int .i64 a, .int .i64 b, .float .f64 x] 82))
    have HSZ := Lib.hid (show base ≤ wc.heap.size from Nat.le_trans HB0.out HOB.out.size)
    have HB7 := Lib.hid ((HOB.out.mono HB0.out).alloc HSZ.out (.cells #[.slice A n c, (.slice A2 m c2), .int .i64 9, .int .i64 a, .int .i64 b, .float .f64 x] 82))
    have HB7S := Lib.hid (show base ≤ (wc.alloc (.cells #[.slice A n c, (.slice A2 m c2), .int .i64 9, .int .i64 a, .int .i64 b, .float .f64 x] 82)).heap.size from Nat.le_trans HSZ.out ((Below.refl _ _).alloc (Nat.le_refl _) _).size)
    have HX3d := Lib.hid (show GB (wc.alloc (.cells #[.slice A n c, (.slice A2 m c2), .int .i64 9, .int .i64 a, .int .i64 b, .float .f64 x] 82)) g3 (.slice none 0 0) (.slice none 0 0) from (Go.heap_alloc_old wc _ HX3c.out.lt).trans HX3c.out)
    have HCD := Lib.hid (alloc_keep HCC.out (.cells #[.slice A n c, (.slice A2 m c2), .int .i64 9, .int .i64 a, .int .i64 b, .float .f64 x] 82))
    have HX3L := HX3c.out.lt
    have hg3b : base ≤ g3 := by have := HGG.out; have := HB0.out; omega
    obtain ⟨m0e, k0e⟩ := HX3c.out.c0
    obtain ⟨m1e, k1e⟩ := HX3c.out.c1
    by_cases hb0 : b = 0
    · subst hb0
      by_cases hx0 : x = 0
      · subst hx0
        have hbare : bareB 9 0 0 = true := by unfold bareB; simp
        have eqv : ls = LS := Eq.symm (HLS.out.trans (ap_9 hbare).2.2)
        subst eqv
        go_wp2_with (fail)
        refine (onNodeD9_any A A2 n c m c2 base wc.heap.size 9 a 0 0 ns ls _ HCBc.out HOc.out HLc.out HB7S.out HSZ.out HGD.out hc HCD.out E NS (HE.out.trans (ap_9 hbare).1) (HNS.out.trans (ap_9 hbare).2.1)).mono ?_
        rintro e w8 ⟨A', n', c', A2', m', c2', rfl, hcb8, hn8, hl8, hb8, hk8, hs8⟩
        have HS8 := Lib.hid hs8
        have HC8 := Lib.hid hcb8
        have HN8 := Lib.hid hn8
        have HL8 := Lib.hid hl8
        have HB8 := Lib.hid (HB7.out.trans (hb8.mono (Nat.le_refl _)))
        have HK8 := Lib.hid hk8
        have HX8 := Lib.hid (show GB w8 g3 (.slice none 0 0) (.slice none 0 0) from (hk8 g3 HX3d.out.lt (by omega) (fun e => own_neG HOc.out HX3d.out (by decide) e.symm) (fun e => own_neG HLc.out HX3d.out (by decide) e.symm)).trans HX3d.out)
        obtain ⟨n0, _⟩ := HC8.out.c0
        obtain ⟨n1, _⟩ := HC8.out.c1
        obtain ⟨m0, k0⟩ := HX8.out.c0
        obtain ⟨m1, k1⟩ := HX8.out.c1
        clear hcb8 hn8 hl8 hb8 hk8 hs8 s0 s1 r0 r1 r2 r3 b0 b1 s1a m0e m1e k0e k1e
        go_wp2_with (fail)
        refine bodyPost_ret (ret_graph2 rfl _ _ _ rfl rfl ((HX8.out.s0 (.slice A' n' c')).s1 (.slice A2' m' c2'))) rfl ?_
        exact ⟨A', n', c', A2', m', c2', rfl, own_set2 (own_set2 HN8.out (own_neG HN8.out HX8.out (by decide))) (own_neG HN8.out HX8.out (by decide)), own_set2 (own_set2 HL8.out (own_neG HL8.out HX8.out (by decide))) (own_neG HL8.out HX8.out (by decide)), (HB8.out.setCell (p := ⟨g3, 0, none⟩) hg3b _).setCell (p := ⟨g3, 1, none⟩) hg3b _, fun q hq h1 h2 => (Go.heap_setCell_other _ ⟨g3, 1, none⟩ q _ (show q ≠ g3 by have := HGG.out; omega)).trans ((Go.heap_setCell_other _ ⟨g3, 0, none⟩ q _ (show q ≠ g3 by have := HGG.out; omega)).trans ((HK8.out q (Nat.lt_of_lt_of_le (Nat.lt_of_lt_of_le hq HOB.out.size) ((Below.refl _ _).alloc (Nat.le_refl _) _).size) (by have := HOB.out.size; omega) h1 h2).trans ((Go.heap_alloc_old _ _ (Nat.lt_of_lt_of_le hq HOB.out.size)).trans (HOB.out.block q hq)))), HS8.out⟩
      · have hx1 : ¬ ((x : Int) = 0) := by omega
        have hx2 : ((x : Int) != 0) = true := by simp; omega
        have hbare : bareB 9 0 x = false := by unfold bareB; simp [hx0]
        have eqv : 1 = E := Eq.symm (HE.out.trans (ap_bad hbare).1)
        subst eqv
        have eqv : ns = NS := Eq.symm (HNS.out.trans (ap_bad hbare).2.1)
        subst eqv
        have eqv : ls = LS := Eq.symm (HLS.out.trans (ap_bad hbare).2.2)
        subst eqv
        go_wp2_with (fail)
        refine bodyPost_ret (ret_graph2 rfl _ _ _ rfl rfl ((HX3c.out.s0 (.slice A n c)).s1 (.slice A2 m c2))) rfl ?_
        exact ⟨A, n, c, A2, m, c2, rfl, own_set2 (own_set2 (own_below HO.out HOB.out) (own_neG (own_below HO.out HOB.out) HX3c.out (by decide))) (own_neG (own_below HO.out HOB.out) HX3c.out (by decide)), own_set2 (own_set2 (own_below HOL.out HOB.out) (own_neG (own_below HOL.out HOB.out) HX3c.out (by decide))) (own_neG (own_below HOL.out HOB.out) HX3c.out (by decide)), ((HOB.out.mono HB0.out).setCell (p := ⟨g3, 0, none⟩) hg3b _).setCell (p := ⟨g3, 1, none⟩) hg3b _, fun q hq _ _ => (Go.heap_setCell_other _ ⟨g3, 1, none⟩ q _ (show q ≠ g3 by have := HGG.out; omega)).trans ((Go.heap_setCell_other _ ⟨g3, 0, none⟩ q _ (show q ≠ g3 by have := HGG.out; omega)).trans (HOB.out.block q hq)), fun _ => ⟨rfl, rfl, rfl, rfl, rfl, rfl⟩⟩
    · have hb2 : (b != 0) = true := by simp; exact hb0
      have hbare : bareB 9 b x = false := by unfold bareB; simp [hb0]
      have eqv : 1 = E := Eq.symm (HE.out.trans (ap_bad hbare).1)
      subst eqv
      have eqv : ns = NS := Eq.symm (HNS.out.trans (ap_bad hbare).2.1)
      subst eqv
      have eqv : ls = LS := Eq.symm (HLS.out.trans (ap_bad hbare).2.2)
      subst eqv
      go_wp2_with (fail)
      refine bodyPost_ret (ret_graph2 rfl _ _ _ rfl rfl ((HX3c.out.s0 (.slice A n c)).s1 (.slice A2 m c2))) rfl ?_
      exact ⟨A, n, c, A2, m, c2, rfl, own_set2 (own_set2 (own_below HO.out HOB.out) (own_neG (own_below HO.out HOB.out) HX3c.out (by decide))) (own_neG (own_below HO.out HOB.out) HX3c.out (by decide)), own_set2 (own_set2 (own_below HOL.out HOB.out) (own_neG (own_below HOL.out HOB.out) HX3c.out (by decide))) (own_neG (own_below HOL.out HOB.out) HX3c.out (by decide)), ((HOB.out.mono HB0.out).setCell (p := ⟨g3, 0, none⟩) hg3b _).setCell (p := ⟨g3, 1, none⟩) hg3b _, fun q hq _ _ => (Go.heap_setCell_other _ ⟨g3, 1, none⟩ q _ (show q ≠ g3 by have := HGG.out; omega)).trans ((Go.heap_setCell_other _ ⟨g3, 0, none⟩ q _ (show q ≠ g3 by have := HGG.out; omega)).trans (HOB.out.block q hq)), fun _ => ⟨rfl, rfl, rfl, rfl, rfl, rfl⟩⟩

end Go.Proofs.Ytgmljlgoaifneaa
