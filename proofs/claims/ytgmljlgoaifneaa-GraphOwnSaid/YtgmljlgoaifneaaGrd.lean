/- The walk of the reference's Apply. Conditions: slices of less than 2^43 elements. -/
import Derived.Test.YtgmljlgoaifneaaGrhi
import Derived.Test.YtgmljlgoaifneaaGax
import Derived.Test.YtgmljlgoaifneaaGrc
import Derived.Test.YtgmljlgoaifneaaGcp
namespace Go.Proofs.Ytgmljlgoaifneaa
open Go.RowKit Flt Go.Mem Go.Lib
set_option linter.unusedVariables false

attribute [local go_sem] run_store_float
set_option maxHeartbeats 3200000
set_option maxRecDepth 100000
theorem linked_any (A A2 : Option Addr) (n c m c2 : Nat) (a b : Int) (x : Nat) (ns : List Nd) (ls : List Lk) (w : World) (hg : GN w w.heap.size A n ns) (hl : GL w w.heap.size A2 m ls) (hG : Good ns ls) (hx64 : x < 18446744073709551616) (E : Int) (NS : List Nd) (LS : List Lk)
    (hE : E = if hasN ns a = false then 70 else if hasN ns b = false then 70 else if a = b then 71 else if hasL ls (lkT a b) = true then 72 else if withinI x 4697254411347427328 = 0 then (if 4096 ≤ ls.length then 2 else 0) else withinI x 4697254411347427328) (hNS : NS = if E = 0 then ns else []) (hLS : LS = if E = 0 then addL ls ⟨mnI a b, mxI a b, x, true⟩ else []) :
    Calls Try.prog 38 #[.agg #[.slice A n c, .slice A2 m c2], .int .i64 a, .int .i64 b, .float .f64 x] w (QPost E NS LS w) := by
  by_cases hab : b < a
  · have e1 : mnI a b = b := if_pos hab
    have e2 : mxI a b = a := if_neg (by omega)
    have e3 : hasL ls (lkT a b) = hasL ls ⟨b, a, x, true⟩ := by unfold lkT; rw [e1, e2]; rfl
    rw [e3] at hE
    rw [e1, e2] at hLS
    exact linked_hi A A2 n c m c2 a b x ns ls w hg hl hG hx64 hab E NS LS hE hNS hLS e3
  · have e1 : mnI a b = a := if_neg hab
    have e2 : mxI a b = b := by unfold mxI; split; rfl; omega
    have e3 : hasL ls (lkT a b) = hasL ls ⟨a, b, x, true⟩ := by unfold lkT; rw [e1, e2]; rfl
    rw [e3] at hE
    rw [e1, e2] at hLS
    exact linked_lo A A2 n c m c2 a b x ns ls w hg hl hG hx64 hab E NS LS hE hNS hLS e3
theorem own_setL {w : World} {base m c2 g i j : Nat} {ls : List Lk} {y : Lk} {u : Value} (h : w.ownsRow base 54 4 (.slice (some ⟨g, 0, none⟩) m c2) m (ls.flatMap lkC)) (hi : i < m) (hj : j < 4) (hy : (lkC (lkA ls i)).set j u = lkC y) : (w.setCell ⟨g, i * 4 + j, none⟩ u).ownsRow base 54 4 (.slice (some ⟨g, 0, none⟩) m c2) m ((ls.set i y).flatMap lkC) := by
  have hlen : ls.length = m := (GL.of_own h).1
  have hs := (h.stored (i * 4 + j) u).1
  rwa [flat_set lkC 4 (fun _ => rfl) u j hj ls i y _ (lkA_some (by omega)) hy] at hs
theorem own_setN {w : World} {base n c g i j : Nat} {ns : List Nd} {y : Nd} {u : Value} (h : w.ownsRow base 52 3 (.slice (some ⟨g, 0, none⟩) n c) n (ns.flatMap ndC)) (hi : i < n) (hj : j < 3) (hy : (ndC (ndA ns i)).set j u = ndC y) : (w.setCell ⟨g, i * 3 + j, none⟩ u).ownsRow base 52 3 (.slice (some ⟨g, 0, none⟩) n c) n ((ns.set i y).flatMap ndC) := by
  have hlen : ns.length = n := (GN.of_own h).1
  have hs := (h.stored (i * 3 + j) u).1
  rwa [flat_set ndC 3 (fun _ => rfl) u j hj ns i y _ (ndA_some (by omega)) hy] at hs
set_option maxHeartbeats 6400000 in
theorem rapply_any (A A2 : Option Addr) (n c m c2 : Nat) (k a b : Int) (x : Nat) (ns : List Nd) (ls : List Lk) (w : World) (hg : GN w w.heap.size A n ns) (hl : GL w w.heap.size A2 m ls) (hw : ∀ i, i < m → (lkA ls i).w < 18446744073709551616) (hx64 : x < 18446744073709551616) (hn : n * 16 ≤ 140737488355328) (hm : m * 32 ≤ 140737488355328) :
    Calls Try.prog 18 #[.agg #[.slice A n c, .slice A2 m c2], .agg #[.int .i64 k, .int .i64 a, .int .i64 b, .float .f64 x]] w (QPost (AE ns ls k a b x) (AN ns ls k a b x) (AL ns ls k a b x) w) := by
  obtain ⟨E, hE⟩ : ∃ E, E = AE ns ls k a b x := ⟨_, rfl⟩
  obtain ⟨NS, hNS⟩ : ∃ E, E = AN ns ls k a b x := ⟨_, rfl⟩
  obtain ⟨LS, hLS⟩ : ∃ E, E = AL ns ls k a b x := ⟨_, rfl⟩
  rw [← hE, ← hNS, ← hLS]
  have HE := Lib.hid hE
  have HNS := Lib.hid hNS
  have HLS := Lib.hid hLS
  have HN := Lib.hid hg
  have HL := Lib.hid hl
  have HW := Lib.hid hw
  have HX := Lib.hid hx64
  clear hE hNS hLS hg hl hw hx64
  have hX1 := Go.heap_alloc_new w (.cells #[.slice A n c, .slice A2 m c2] 25)
  have hX2 := Go.heap_alloc_new (w.alloc (.cells #[.slice A n c, .slice A2 m c2] 25)) (.cells #[.int .i64 k, .int .i64 a, .int .i64 b, .float .f64 x] 38)
  have hX3 := Go.heap_alloc_new ((w.alloc (.cells #[.slice A n c, .slice A2 m c2] 25)).alloc (.cells #[.int .i64 k, .int .i64 a, .int .i64 b, .float .f64 x] 38)) (.cells #[.slice none 0 0, .slice none 0 0] 25)
  have hB3 := (((Below.refl w.heap.size w).alloc (Nat.le_refl _) (.cells #[.slice A n c, .slice A2 m c2] 25)).alloc (by simp) (.cells #[.int .i64 k, .int .i64 a, .int .i64 b, .float .f64 x] 38)).alloc (by simp; omega) (.cells #[.slice none 0 0, .slice none 0 0] 25)
  have hx1 : (((w.alloc (.cells #[.slice A n c, .slice A2 m c2] 25)).alloc (.cells #[.int .i64 k, .int .i64 a, .int .i64 b, .float .f64 x] 38)).alloc (.cells #[.slice none 0 0, .slice none 0 0] 25)).heap[w.heap.size]? = _ := (Go.heap_alloc_old _ _ (by simp; omega)).trans ((Go.heap_alloc_old _ _ (by simp)).trans hX1)
  have hx2 : (((w.alloc (.cells #[.slice A n c, .slice A2 m c2] 25)).alloc (.cells #[.int .i64 k, .int .i64 a, .int .i64 b, .float .f64 x] 38)).alloc (.cells #[.slice none 0 0, .slice none 0 0] 25)).heap[w.heap.size + 1]? = some (.cells #[.int .i64 k, .int .i64 a, .int .i64 b, .float .f64 x] 38 (0, 0)) := by
    rw [Go.heap_alloc_old _ _ (by simp)]
    rw [show (w.alloc (.cells #[.slice A n c, .slice A2 m c2] 25)).heap.size = w.heap.size + 1 by simp] at hX2; exact hX2
  have hx3 : (((w.alloc (.cells #[.slice A n c, .slice A2 m c2] 25)).alloc (.cells #[.int .i64 k, .int .i64 a, .int .i64 b, .float .f64 x] 38)).alloc (.cells #[.slice none 0 0, .slice none 0 0] 25)).heap[w.heap.size + 1 + 1]? = some (.cells #[.slice none 0 0, .slice none 0 0] 25 (0, 0)) := by
    rw [show ((w.alloc (.cells #[.slice A n c, .slice A2 m c2] 25)).alloc (.cells #[.int .i64 k, .int .i64 a, .int .i64 b, .float .f64 x] 38)).heap.size = w.heap.size + 1 + 1 by simp] at hX3; exact hX3
  clear hX1 hX2 hX3
  have HCH := Lib.hid (fun (ns0 : List Nd) (ls0 : List Lk) w' (h1 : GN w' w'.heap.size A n ns) (h2 : GL w' w'.heap.size A2 m ls) => rcheck_any A A2 n c m c2 ns ls w' h1 h2 HW.out (by omega) (by omega))
  go_enter Try.func18, Try.ntmps18
  go_wp2_with (fail)
  generalize ((w.alloc (.cells #[.slice A n c, .slice A2 m c2] 25)).alloc (.cells #[.int .i64 k, .int .i64 a, .int .i64 b, .float .f64 x] 38)).alloc (.cells #[.slice none 0 0, .slice none 0 0] 25) = w0 at *
  generalize hg3 : w.heap.size + 1 + 1 = g3 at *
  generalize hg2 : w.heap.size + 1 = g2 at *
  generalize hg1 : w.heap.size = g1 at *
  have HX1 := Lib.hid (show GB w0 g1 (.slice A n c) (.slice A2 m c2) from hx1)
  have HX3 := Lib.hid (show GB w0 g3 (.slice none 0 0) (.slice none 0 0) from hx3)
  have HX2 := Lib.hid hx2
  have HB3 := Lib.hid hB3
  have HGG := Lib.hid (show g2 = g1 + 1 ∧ g3 = g1 + 2 from ⟨by omega, by omega⟩)
  have HGE := Lib.hid hg1
  clear hx1 hx2 hx3 hB3 hg2 hg3 hg1
  have GAT := Lib.hid (fun w' (h : Below g1 w w') => (by have := HGE.out; subst this; exact ⟨(HN.out.below h).more h.size, (HL.out.below h).more h.size⟩ : GN w' w'.heap.size A n ns ∧ GL w' w'.heap.size A2 m ls))
  have HNZ := Lib.hid (fun (h : ¬ E = 0) => (show NS = [] by rw [HNS.out]; unfold AN; rw [← HE.out, if_neg h]))
  have HLZ := Lib.hid (fun (h : ¬ E = 0) => (show LS = [] by rw [HLS.out]; unfold AL; rw [← HE.out, if_neg h]))
  have HNP := Lib.hid (fun (h : E = 0) => (show NS = apN ns ls k a b x by rw [HNS.out]; unfold AN; rw [← HE.out, if_pos h]))
  have HLP := Lib.hid (fun (h : E = 0) => (show LS = apL ns ls k a b x by rw [HLS.out]; unfold AL; rw [← HE.out, if_pos h]))
  refine (HCH.out ns ls _ (GAT.out _ HB3.out).1 (GAT.out _ HB3.out).2).mono ?_
  rintro e w1 ⟨rfl, hb⟩
  have hsz0 : g1 ≤ w0.heap.size := by have := HX1.out.lt; omega
  have HB1 := Lib.hid (HB3.out.trans (hb.mono hsz0))
  have HY1 := Lib.hid (HX1.out.below hb HX1.out.lt)
  have HY3 := Lib.hid (HX3.out.below hb HX3.out.lt)
  have HY2 := Lib.hid ((hb.block g2 (lt_of_heap HX2.out)).trans HX2.out)
  clear hb
  by_cases hc0 : chkG ns ls = 0
  rotate_left
  · have hE2 : E = chkG ns ls := HE.out.trans (if_neg hc0)
    have hE0 : ¬ E = 0 := by rw [hE2]; exact hc0
    rw [← hE2]
    have eqv : [] = NS := Eq.symm (HNZ.out hE0)
    subst eqv
    have eqv : [] = LS := Eq.symm (HLZ.out hE0)
    subst eqv
    clear hE2 hc0
    obtain ⟨z0, k0⟩ := HY3.out.c0
    obtain ⟨z1, k1⟩ := HY3.out.c1
    go_wp2_with (fail)
    refine bodyPost_ret (ret_graph2 rfl _ _ _ rfl rfl ((HY3.out.s0 (.slice none 0 0)).s1 (.slice none 0 0))) rfl ?_
    have hge2 := HGE.out
    have hgg := HGG.out
    subst hge2
    exact ⟨none, 0, 0, none, 0, 0, rfl, World.ownsRow_nil _ _ _ _, World.ownsRow_nil _ _ _ _, (HB1.out.setCell (p := ⟨g3, 0, none⟩) (by show _ ≤ g3; omega) _).setCell (p := ⟨g3, 1, none⟩) (by show _ ≤ g3; omega) _⟩
  have HGD := Lib.hid (good_of hc0)
  have hE2 : E = apE ns ls k a b x := HE.out.trans (if_pos hc0)
  have HE2 := Lib.hid hE2
  rw [hc0]
  clear hE2 hc0
  have y0 : w1.cell? ⟨g2, 0, none⟩ = some (.int .i64 k) := (Go.cell_of_row w1 g2 0 _ _ _ HY2.out).trans rfl
  have y1 : w1.cell? ⟨g2, 1, none⟩ = some (.int .i64 a) := (Go.cell_of_row w1 g2 1 _ _ _ HY2.out).trans rfl
  have y2 : w1.cell? ⟨g2, 2, none⟩ = some (.int .i64 b) := (Go.cell_of_row w1 g2 2 _ _ _ HY2.out).trans rfl
  have y3 : w1.cell? ⟨g2, 3, none⟩ = some (.float .f64 x) := (Go.cell_of_row w1 g2 3 _ _ _ HY2.out).trans rfl
  go_wp2_with (fail)
  refine (bare_any k a b x _).mono ?_
  rintro e w2 ⟨rfl, hb⟩
  have hsz1 : g1 ≤ w1.heap.size := by have := HY1.out.lt; omega
  have HB2 := Lib.hid (HB1.out.trans (hb.mono hsz1))
  have HV1 := Lib.hid (HY1.out.below hb HY1.out.lt)
  have HV3 := Lib.hid (HY3.out.below hb HY3.out.lt)
  have HV2 := Lib.hid ((hb.block g2 (lt_of_heap HY2.out)).trans HY2.out)
  clear hb y0 y1 y2 y3
  obtain ⟨z0, k0⟩ := HV3.out.c0
  obtain ⟨z1, k1⟩ := HV3.out.c1
  cases hbare : bareB k b x
  · have eqv : 1 = E := Eq.symm (HE2.out.trans (ap_bad hbare).1)
    subst eqv
    have eqv : [] = NS := Eq.symm (HNZ.out (by decide))
    subst eqv
    have eqv : [] = LS := Eq.symm (HLZ.out (by decide))
    subst eqv
    go_wp2_with (fail)
    refine bodyPost_ret (ret_graph2 rfl _ _ _ rfl rfl ((HV3.out.s0 (.slice none 0 0)).s1 (.slice none 0 0))) rfl ?_
    have hge2 := HGE.out
    have hgg := HGG.out
    subst hge2
    exact ⟨none, 0, 0, none, 0, 0, rfl, World.ownsRow_nil _ _ _ _, World.ownsRow_nil _ _ _ _, (HB2.out.setCell (p := ⟨g3, 0, none⟩) (by show _ ≤ g3; omega) _).setCell (p := ⟨g3, 1, none⟩) (by show _ ≤ g3; omega) _⟩
  have hk19 := bareB_kind hbare
  have HBR := Lib.hid hbare
  clear hbare
  have e0 := HV1.out.c0.1
  have e1 := HV1.out.c1.1
  have y0 : w2.cell? ⟨g2, 0, none⟩ = some (.int .i64 k) := (Go.cell_of_row w2 g2 0 _ _ _ HV2.out).trans rfl
  have y1 : w2.cell? ⟨g2, 1, none⟩ = some (.int .i64 a) := (Go.cell_of_row w2 g2 1 _ _ _ HV2.out).trans rfl
  have y2 : w2.cell? ⟨g2, 2, none⟩ = some (.int .i64 b) := (Go.cell_of_row w2 g2 2 _ _ _ HV2.out).trans rfl
  have y3 : w2.cell? ⟨g2, 3, none⟩ = some (.float .f64 x) := (Go.cell_of_row w2 g2 3 _ _ _ HV2.out).trans rfl
  have hsz2 : g1 ≤ w2.heap.size := by have := HV1.out.lt; omega
  have hkk : k = 1 ∨ k = 2 ∨ k = 3 ∨ k = 4 ∨ k = 5 ∨ k = 6 ∨ k = 7 ∨ k = 8 ∨ k = 9 := by omega
  clear hk19
  rcases hkk with rfl | rfl | rfl | rfl | rfl | rfl | rfl | rfl | rfl
  · go_wp2_with (fail)
    refine (added_any A A2 n c m c2 a ns ls _ (GAT.out _ HB2.out).1 (GAT.out _ HB2.out).2 HGD.out E NS LS (HE2.out.trans (ap_1 HBR.out).1) (by by_cases h : E = 0; rw [if_pos h, HNP.out h, (ap_1 HBR.out).2.1, ← HE2.out, if_pos h]; rw [if_neg h, HNZ.out h]) (by by_cases h : E = 0; rw [if_pos h, HLP.out h, (ap_1 HBR.out).2.2]; rw [if_neg h, HLZ.out h])).mono ?_
    rintro e w3 ⟨B, n', d, B2, m', d2, rfl, o1, o2, hb⟩
    have HB3' := Lib.hid (HB2.out.trans (hb.mono hsz2))
    have HZ := Lib.hid (HV3.out.below hb HV3.out.lt)
    have HO1 := Lib.hid (own_mono o1 hsz2)
    have HO2 := Lib.hid (own_mono o2 hsz2)
    clear hb o1 o2 z0 z1 k0 k1
    obtain ⟨z0, k0⟩ := HZ.out.c0
    obtain ⟨z1, k1⟩ := HZ.out.c1
    go_wp2_with (fail)
    refine bodyPost_ret (ret_graph2 rfl _ _ _ rfl rfl ((HZ.out.s0 (.slice B n' d)).s1 (.slice B2 m' d2))) rfl ?_
    have hge2 := HGE.out
    have hgg := HGG.out
    subst hge2
    exact ⟨B, n', d, B2, m', d2, rfl, own_set2 (own_set2 HO1.out (own_neG HO1.out HZ.out (by decide))) (own_neG HO1.out HZ.out (by decide)), own_set2 (own_set2 HO2.out (own_neG HO2.out HZ.out (by decide))) (own_neG HO2.out HZ.out (by decide)), (HB3'.out.setCell (p := ⟨g3, 0, none⟩) (by show _ ≤ g3; omega) _).setCell (p := ⟨g3, 1, none⟩) (by show _ ≤ g3; omega) _⟩
  · go_wp2_with (fail)
    refine (linked_any A A2 n c m c2 a b x ns ls _ (GAT.out _ HB2.out).1 (GAT.out _ HB2.out).2 HGD.out HX.out E NS LS (HE2.out.trans (ap_2 HBR.out).1) (by by_cases h : E = 0; rw [if_pos h, HNP.out h, (ap_2 HBR.out).2.2]; rw [if_neg h, HNZ.out h]) (by by_cases h : E = 0; rw [if_pos h, HLP.out h, (ap_2 HBR.out).2.1, ← HE2.out, if_pos h]; rw [if_neg h, HLZ.out h])).mono ?_
    rintro e w3 ⟨B, n', d, B2, m', d2, rfl, o1, o2, hb⟩
    have HB3' := Lib.hid (HB2.out.trans (hb.mono hsz2))
    have HZ := Lib.hid (HV3.out.below hb HV3.out.lt)
    have HO1 := Lib.hid (own_mono o1 hsz2)
    have HO2 := Lib.hid (own_mono o2 hsz2)
    clear hb o1 o2 z0 z1 k0 k1
    obtain ⟨z0, k0⟩ := HZ.out.c0
    obtain ⟨z1, k1⟩ := HZ.out.c1
    go_wp2_with (fail)
    refine bodyPost_ret (ret_graph2 rfl _ _ _ rfl rfl ((HZ.out.s0 (.slice B n' d)).s1 (.slice B2 m' d2))) rfl ?_
    have hge2 := HGE.out
    have hgg := HGG.out
    subst hge2
    exact ⟨B, n', d, B2, m', d2, rfl, own_set2 (own_set2 HO1.out (own_neG HO1.out HZ.out (by decide))) (own_neG HO1.out HZ.out (by decide)), own_set2 (own_set2 HO2.out (own_neG HO2.out HZ.out (by decide))) (own_neG HO2.out HZ.out (by decide)), (HB3'.out.setCell (p := ⟨g3, 0, none⟩) (by show _ ≤ g3; omega) _).setCell (p := ⟨g3, 1, none⟩) (by show _ ≤ g3; omega) _⟩
  · go_wp2_with (fail)
    refine (copy_any A A2 n c m c2 ns ls _ (GAT.out _ HB2.out).1 (GAT.out _ HB2.out).2 (by omega) (by omega)).mono ?_
    rintro e w3 ⟨B, d, B2, d2, rfl, o1, o2, hb⟩
    have HB3' := Lib.hid (HB2.out.trans (hb.mono hsz2))
    have HW1 := Lib.hid (HV1.out.below hb HV1.out.lt)
    have HW3 := Lib.hid (HV3.out.below hb HV3.out.lt)
    have HW2 := Lib.hid ((hb.block g2 (lt_of_heap HV2.out)).trans HV2.out)
    have HO1 := Lib.hid (own_mono o1 hsz2)
    have HO2 := Lib.hid (own_mono o2 hsz2)
    clear hb o1 o2 z0 z1 k0 k1 e0 e1 y0 y1 y2 y3
    have HT := Lib.hid (show GB (w3.alloc (.cells #[.slice B n d, .slice B2 m d2] 25)) w3.heap.size (.slice B n d) (.slice B2 m d2) from Go.heap_alloc_new w3 _)
    have HA1 := Lib.hid (HW1.out.alloc (.cells #[.slice B n d, .slice B2 m d2] 25))
    have HA3 := Lib.hid (HW3.out.alloc (.cells #[.slice B n d, .slice B2 m d2] 25))
    have HA2 := Lib.hid ((Go.heap_alloc_old w3 (.cells #[.slice B n d, .slice B2 m d2] 25) (lt_of_heap HW2.out)).trans HW2.out)
    have HP1 := Lib.hid (World.ownsRow.alloc HO1.out (.cells #[.slice B n d, .slice B2 m d2] 25))
    have HP2 := Lib.hid (World.ownsRow.alloc HO2.out (.cells #[.slice B n d, .slice B2 m d2] 25))
    have hsz3 : g1 ≤ w3.heap.size := by have := HW1.out.lt; omega
    have HAB := Lib.hid (HB3'.out.alloc hsz3 (.cells #[.slice B n d, .slice B2 m d2] 25))
    have HG3 := Lib.hid (show g3 < w3.heap.size from HW3.out.lt)
    have e0 := HA1.out.c0.1
    have e1 := HA1.out.c1.1
    have y0 : (w3.alloc (.cells #[.slice B n d, .slice B2 m d2] 25)).cell? ⟨g2, 0, none⟩ = some (.int .i64 3) := (Go.cell_of_row _ g2 0 _ _ _ HA2.out).trans rfl
    have y1 : (w3.alloc (.cells #[.slice B n d, .slice B2 m d2] 25)).cell? ⟨g2, 1, none⟩ = some (.int .i64 a) := (Go.cell_of_row _ g2 1 _ _ _ HA2.out).trans rfl
    have y2 : (w3.alloc (.cells #[.slice B n d, .slice B2 m d2] 25)).cell? ⟨g2, 2, none⟩ = some (.int .i64 b) := (Go.cell_of_row _ g2 2 _ _ _ HA2.out).trans rfl
    have y3 : (w3.alloc (.cells #[.slice B n d, .slice B2 m d2] 25)).cell? ⟨g2, 3, none⟩ = some (.float .f64 x) := (Go.cell_of_row _ g2 3 _ _ _ HA2.out).trans rfl
    go_wp2_with (fail)
    generalize w3.alloc (.cells #[.slice B n d, .slice B2 m d2] 25) = w4 at *
    generalize w3.heap.size = t7 at *
    have hsz4 : g1 ≤ w4.heap.size := by have := HA1.out.lt; omega
    cases hh : hasL ls (lkT a b)
    · have eqv : 4 = E := Eq.symm (HE2.out.trans ((ap_3 HBR.out).1.trans (by rw [hh]; rfl)))
      subst eqv
      have eqv : [] = NS := Eq.symm (HNZ.out (by decide))
      subst eqv
      have eqv : [] = LS := Eq.symm (HLZ.out (by decide))
      subst eqv
      refine (rlink_no (GAT.out _ HAB.out).2 HGD.out.RiseL (by omega) hh).mono ?_
      rintro e w5 ⟨rfl, hb⟩
      have HB5 := Lib.hid (HAB.out.trans (hb.mono hsz4))
      have HT5 := Lib.hid (HT.out.below hb HT.out.lt)
      have HR5 := Lib.hid (HA3.out.below hb HA3.out.lt)
      have HC5 := Lib.hid ((hb.block g2 (lt_of_heap HA2.out)).trans HA2.out)
      have HQ1 := Lib.hid (own_below HP1.out hb)
      have HQ2 := Lib.hid (own_below HP2.out hb)
      clear hb e0 e1 y0 y1 y2 y3
      obtain ⟨z0, k0⟩ := HR5.out.c0
      obtain ⟨z1, k1⟩ := HR5.out.c1
      have r0 := HT5.out.c0.1
      have r1 := HT5.out.c1.1
      have y0 : w5.cell? ⟨g2, 0, none⟩ = some (.int .i64 3) := (Go.cell_of_row w5 g2 0 _ _ _ HC5.out).trans rfl
      have y3 : w5.cell? ⟨g2, 3, none⟩ = some (.float .f64 x) := (Go.cell_of_row w5 g2 3 _ _ _ HC5.out).trans rfl
      go_wp2_with (fail)
      refine bodyPost_ret (ret_graph2 rfl _ _ _ rfl rfl ((HR5.out.s0 (.slice none 0 0)).s1 (.slice none 0 0))) rfl ?_
      have hge2 := HGE.out
      have hgg := HGG.out
      subst hge2
      exact ⟨none, 0, 0, none, 0, 0, rfl, World.ownsRow_nil _ _ _ _, World.ownsRow_nil _ _ _ _, (HB5.out.setCell (p := ⟨g3, 0, none⟩) (by show _ ≤ g3; omega) _).setCell (p := ⟨g3, 1, none⟩) (by show _ ≤ g3; omega) _⟩
    · refine (rlink_yes (GAT.out _ HAB.out).2 HGD.out.RiseL (by omega) hh).mono ?_
      rintro e w5 ⟨rfl, hb⟩
      have HB5 := Lib.hid (HAB.out.trans (hb.mono hsz4))
      have HT5 := Lib.hid (HT.out.below hb HT.out.lt)
      have HR5 := Lib.hid (HA3.out.below hb HA3.out.lt)
      have HC5 := Lib.hid ((hb.block g2 (lt_of_heap HA2.out)).trans HA2.out)
      have HQ1 := Lib.hid (own_below HP1.out hb)
      have HQ2 := Lib.hid (own_below HP2.out hb)
      clear hb e0 e1 y0 y1 y2 y3
      obtain ⟨z0, k0⟩ := HR5.out.c0
      obtain ⟨z1, k1⟩ := HR5.out.c1
      have r0 := HT5.out.c0.1
      have r1 := HT5.out.c1.1
      have y0 : w5.cell? ⟨g2, 0, none⟩ = some (.int .i64 3) := (Go.cell_of_row w5 g2 0 _ _ _ HC5.out).trans rfl
      have y3 : w5.cell? ⟨g2, 3, none⟩ = some (.float .f64 x) := (Go.cell_of_row w5 g2 3 _ _ _ HC5.out).trans rfl
      have hci := cnt_lk HGD.out.RiseL (t := lkT a b) hh
      have hml : ls.length = m := HL.out.1
      obtain ⟨gq, hAq⟩ : ∃ gq, B2 = some ⟨gq, 0, none⟩ := by
        rcases own_cases HQ2.out with ⟨_, h, _⟩ | ⟨gq, h, _⟩
        · have := hci.1; omega
        · exact ⟨gq, h⟩
      subst hAq
      have WEI := Lib.hid (fun W => rweight_any x HX.out W)
      by_cases hz : withinI x 4697254411347427328 = 0
      · have eqv : 0 = E := Eq.symm (HE2.out.trans ((ap_3 HBR.out).1.trans (by rw [hh, if_neg (by decide)]; exact hz)))
        subst eqv
        have eqv : ns = NS := Eq.symm (by rw [HNP.out rfl, (ap_3 HBR.out).2.2])
        subst eqv
        have eqv : ls.set (cntL ls (lkT a b)) (turnL 3 x (lkA ls (cntL ls (lkT a b)))) = LS := Eq.symm (by rw [HLP.out rfl, (ap_3 HBR.out).2.1, if_pos ⟨hh, hz⟩]; rfl)
        subst eqv
        rw [hz] at WEI
        clear hh
        generalize cntL ls (lkT a b) = i at *
        have hip : i < m := by have := hci.1; omega
        have hi0 : ¬ ((i : Int) < 0) := by omega
        have hcc := HQ2.out.cellAt (i * 4 + 2) (by omega)
        rw [show (ls.flatMap lkC)[i * 4 + 2]? = _ from (lkC_get (l := ls) (i := i) (by omega)).2.2.1] at hcc
        have hff := HQ2.out.frozenAt (i * 4 + 2)
        clear hci
        have HQR := Lib.hid (show GB (w5.setCell ⟨gq, i * 4 + 2, none⟩ (.float .f64 x)) g3 (.slice none 0 0) (.slice none 0 0) from (Go.heap_setCell_other w5 _ g3 _ (fun e => own_neG HQ2.out HR5.out (by decide) (by rw [e]; rfl))).trans HR5.out)
        have HT6 := Lib.hid (show GB (w5.setCell ⟨gq, i * 4 + 2, none⟩ (.float .f64 x)) t7 (.slice B n d) (.slice (some ⟨gq, 0, none⟩) m d2) from (Go.heap_setCell_other w5 _ t7 _ (fun e => own_neG HQ2.out HT5.out (by decide) (by rw [e]; rfl))).trans HT5.out)
        have u0 := HQR.out.c0
        have u1 := HQR.out.c1
        have s0 := HT6.out.c0.1
        have s1 := HT6.out.c1.1
        go_wp2_with (go_at_call 32; refine (WEI.out _).mono ?_; rintro e w2' ⟨rfl, hww⟩; subst hww)
        refine bodyPost_ret (ret_graph2 rfl _ _ _ rfl rfl ((HQR.out.s0 (.slice B n d)).s1 (.slice (some ⟨gq, 0, none⟩) m d2))) rfl ?_
        have hge2 := HGE.out
        have hgg := HGG.out
        subst hge2
        exact ⟨B, n, d, some ⟨gq, 0, none⟩, m, d2, rfl, own_set2 (own_set2 (HQ1.out.kept (HQ2.out.stored (i * 4 + 2) _).2 (.inr (own_ne2 HQ1.out HQ2.out (by decide)))) (own_neG HQ1.out HR5.out (by decide))) (own_neG HQ1.out HR5.out (by decide)), own_set2 (own_set2 (own_setL (j := 2) (y := turnL 3 x (lkA ls i)) HQ2.out hip (by decide) rfl) (own_neG HQ2.out HR5.out (by decide))) (own_neG HQ2.out HR5.out (by decide)), ((HB5.out.setCell (p := ⟨gq, i * 4 + 2, none⟩) (HQ2.out.lt gq rfl).1 _).setCell (p := ⟨g3, 0, none⟩) (by show _ ≤ g3; omega) _).setCell (p := ⟨g3, 1, none⟩) (by show _ ≤ g3; omega) _⟩
      · obtain ⟨R, hR⟩ : ∃ R, R = withinI x 4697254411347427328 := ⟨_, rfl⟩
        have hE4 : E = R := HE2.out.trans ((ap_3 HBR.out).1.trans (by rw [hh, if_neg (by decide), ← hR]))
        rw [← hR] at WEI hz
        clear hR
        subst hE4
        have eqv : [] = NS := Eq.symm (HNZ.out hz)
        subst eqv
        have eqv : [] = LS := Eq.symm (HLZ.out hz)
        subst eqv
        clear hh
        generalize cntL ls (lkT a b) = i at *
        have hip : i < m := by have := hci.1; omega
        have hi0 : ¬ ((i : Int) < 0) := by omega
        have hcc := HQ2.out.cellAt (i * 4 + 2) (by omega)
        rw [show (ls.flatMap lkC)[i * 4 + 2]? = _ from (lkC_get (l := ls) (i := i) (by omega)).2.2.1] at hcc
        have hff := HQ2.out.frozenAt (i * 4 + 2)
        clear hci
        go_wp2_with (go_at_call 32; refine (WEI.out _).mono ?_; rintro e w2' ⟨rfl, hww⟩; subst hww)
        all_goals
          refine bodyPost_ret (ret_graph2 rfl _ _ _ rfl rfl ((HR5.out.s0 (.slice none 0 0)).s1 (.slice none 0 0))) rfl ?_
          have hge2 := HGE.out
          have hgg := HGG.out
          subst hge2
          exact ⟨none, 0, 0, none, 0, 0, rfl, World.ownsRow_nil _ _ _ _, World.ownsRow_nil _ _ _ _, (HB5.out.setCell (p := ⟨g3, 0, none⟩) (by show _ ≤ g3; omega) _).setCell (p := ⟨g3, 1, none⟩) (by show _ ≤ g3; omega) _⟩
  · go_wp2_with (fail)
    refine (copy_any A A2 n c m c2 ns ls _ (GAT.out _ HB2.out).1 (GAT.out _ HB2.out).2 (by omega) (by omega)).mono ?_
    rintro e w3 ⟨B, d, B2, d2, rfl, o1, o2, hb⟩
    have HB3' := Lib.hid (HB2.out.trans (hb.mono hsz2))
    have HW1 := Lib.hid (HV1.out.below hb HV1.out.lt)
    have HW3 := Lib.hid (HV3.out.below hb HV3.out.lt)
    have HW2 := Lib.hid ((hb.block g2 (lt_of_heap HV2.out)).trans HV2.out)
    have HO1 := Lib.hid (own_mono o1 hsz2)
    have HO2 := Lib.hid (own_mono o2 hsz2)
    clear hb o1 o2 z0 z1 k0 k1 e0 e1 y0 y1 y2 y3
    have HT := Lib.hid (show GB (w3.alloc (.cells #[.slice B n d, .slice B2 m d2] 25)) w3.heap.size (.slice B n d) (.slice B2 m d2) from Go.heap_alloc_new w3 _)
    have HA1 := Lib.hid (HW1.out.alloc (.cells #[.slice B n d, .slice B2 m d2] 25))
    have HA3 := Lib.hid (HW3.out.alloc (.cells #[.slice B n d, .slice B2 m d2] 25))
    have HA2 := Lib.hid ((Go.heap_alloc_old w3 (.cells #[.slice B n d, .slice B2 m d2] 25) (lt_of_heap HW2.out)).trans HW2.out)
    have HP1 := Lib.hid (World.ownsRow.alloc HO1.out (.cells #[.slice B n d, .slice B2 m d2] 25))
    have HP2 := Lib.hid (World.ownsRow.alloc HO2.out (.cells #[.slice B n d, .slice B2 m d2] 25))
    have hsz3 : g1 ≤ w3.heap.size := by have := HW1.out.lt; omega
    have HAB := Lib.hid (HB3'.out.alloc hsz3 (.cells #[.slice B n d, .slice B2 m d2] 25))
    have HG3 := Lib.hid (show g3 < w3.heap.size from HW3.out.lt)
    have e0 := HA1.out.c0.1
    have e1 := HA1.out.c1.1
    have y0 : (w3.alloc (.cells #[.slice B n d, .slice B2 m d2] 25)).cell? ⟨g2, 0, none⟩ = some (.int .i64 4) := (Go.cell_of_row _ g2 0 _ _ _ HA2.out).trans rfl
    have y1 : (w3.alloc (.cells #[.slice B n d, .slice B2 m d2] 25)).cell? ⟨g2, 1, none⟩ = some (.int .i64 a) := (Go.cell_of_row _ g2 1 _ _ _ HA2.out).trans rfl
    have y2 : (w3.alloc (.cells #[.slice B n d, .slice B2 m d2] 25)).cell? ⟨g2, 2, none⟩ = some (.int .i64 b) := (Go.cell_of_row _ g2 2 _ _ _ HA2.out).trans rfl
    have y3 : (w3.alloc (.cells #[.slice B n d, .slice B2 m d2] 25)).cell? ⟨g2, 3, none⟩ = some (.float .f64 x) := (Go.cell_of_row _ g2 3 _ _ _ HA2.out).trans rfl
    go_wp2_with (fail)
    generalize w3.alloc (.cells #[.slice B n d, .slice B2 m d2] 25) = w4 at *
    generalize w3.heap.size = t7 at *
    have hsz4 : g1 ≤ w4.heap.size := by have := HA1.out.lt; omega
    cases hh : hasL ls (lkT a b)
    · have eqv : 4 = E := Eq.symm (HE2.out.trans ((ap_4 HBR.out).1.trans (by rw [hh]; rfl)))
      subst eqv
      have eqv : [] = NS := Eq.symm (HNZ.out (by decide))
      subst eqv
      have eqv : [] = LS := Eq.symm (HLZ.out (by decide))
      subst eqv
      refine (rlink_no (GAT.out _ HAB.out).2 HGD.out.RiseL (by omega) hh).mono ?_
      rintro e w5 ⟨rfl, hb⟩
      have HB5 := Lib.hid (HAB.out.trans (hb.mono hsz4))
      have HT5 := Lib.hid (HT.out.below hb HT.out.lt)
      have HR5 := Lib.hid (HA3.out.below hb HA3.out.lt)
      have HC5 := Lib.hid ((hb.block g2 (lt_of_heap HA2.out)).trans HA2.out)
      have HQ1 := Lib.hid (own_below HP1.out hb)
      have HQ2 := Lib.hid (own_below HP2.out hb)
      clear hb e0 e1 y0 y1 y2 y3
      obtain ⟨z0, k0⟩ := HR5.out.c0
      obtain ⟨z1, k1⟩ := HR5.out.c1
      have r0 := HT5.out.c0.1
      have r1 := HT5.out.c1.1
      have y0 : w5.cell? ⟨g2, 0, none⟩ = some (.int .i64 4) := (Go.cell_of_row w5 g2 0 _ _ _ HC5.out).trans rfl
      have y3 : w5.cell? ⟨g2, 3, none⟩ = some (.float .f64 x) := (Go.cell_of_row w5 g2 3 _ _ _ HC5.out).trans rfl
      go_wp2_with (fail)
      refine bodyPost_ret (ret_graph2 rfl _ _ _ rfl rfl ((HR5.out.s0 (.slice none 0 0)).s1 (.slice none 0 0))) rfl ?_
      have hge2 := HGE.out
      have hgg := HGG.out
      subst hge2
      exact ⟨none, 0, 0, none, 0, 0, rfl, World.ownsRow_nil _ _ _ _, World.ownsRow_nil _ _ _ _, (HB5.out.setCell (p := ⟨g3, 0, none⟩) (by show _ ≤ g3; omega) _).setCell (p := ⟨g3, 1, none⟩) (by show _ ≤ g3; omega) _⟩
    · refine (rlink_yes (GAT.out _ HAB.out).2 HGD.out.RiseL (by omega) hh).mono ?_
      rintro e w5 ⟨rfl, hb⟩
      have HB5 := Lib.hid (HAB.out.trans (hb.mono hsz4))
      have HT5 := Lib.hid (HT.out.below hb HT.out.lt)
      have HR5 := Lib.hid (HA3.out.below hb HA3.out.lt)
      have HC5 := Lib.hid ((hb.block g2 (lt_of_heap HA2.out)).trans HA2.out)
      have HQ1 := Lib.hid (own_below HP1.out hb)
      have HQ2 := Lib.hid (own_below HP2.out hb)
      clear hb e0 e1 y0 y1 y2 y3
      obtain ⟨z0, k0⟩ := HR5.out.c0
      obtain ⟨z1, k1⟩ := HR5.out.c1
      have r0 := HT5.out.c0.1
      have r1 := HT5.out.c1.1
      have y0 : w5.cell? ⟨g2, 0, none⟩ = some (.int .i64 4) := (Go.cell_of_row w5 g2 0 _ _ _ HC5.out).trans rfl
      have y3 : w5.cell? ⟨g2, 3, none⟩ = some (.float .f64 x) := (Go.cell_of_row w5 g2 3 _ _ _ HC5.out).trans rfl
      have hci := cnt_lk HGD.out.RiseL (t := lkT a b) hh
      have hml : ls.length = m := HL.out.1
      obtain ⟨gq, hAq⟩ : ∃ gq, B2 = some ⟨gq, 0, none⟩ := by
        rcases own_cases HQ2.out with ⟨_, h, _⟩ | ⟨gq, h, _⟩
        · have := hci.1; omega
        · exact ⟨gq, h⟩
      subst hAq
      have eqv : 0 = E := Eq.symm (HE2.out.trans ((ap_4 HBR.out).1.trans (by rw [hh]; rfl)))
      subst eqv
      have eqv : ns = NS := Eq.symm (by rw [HNP.out rfl, (ap_4 HBR.out).2.2])
      subst eqv
      have eqv : ls.set (cntL ls (lkT a b)) (turnL 4 x (lkA ls (cntL ls (lkT a b)))) = LS := Eq.symm (by rw [HLP.out rfl, (ap_4 HBR.out).2.1, if_pos hh]; rfl)
      subst eqv
      clear hh
      generalize cntL ls (lkT a b) = i at *
      have hip : i < m := by have := hci.1; omega
      have hi0 : ¬ ((i : Int) < 0) := by omega
      have hcc := HQ2.out.cellAt (i * 4 + 3) (by omega)
      rw [show (ls.flatMap lkC)[i * 4 + 3]? = _ from (lkC_get (l := ls) (i := i) (by omega)).2.2.2] at hcc
      have hff := HQ2.out.frozenAt (i * 4 + 3)
      clear hci
      have HQR := Lib.hid (show GB (w5.setCell ⟨gq, i * 4 + 3, none⟩ (.bool false)) g3 (.slice none 0 0) (.slice none 0 0) from (Go.heap_setCell_other w5 _ g3 _ (fun e => own_neG HQ2.out HR5.out (by decide) (by rw [e]; rfl))).trans HR5.out)
      have HT6 := Lib.hid (show GB (w5.setCell ⟨gq, i * 4 + 3, none⟩ (.bool false)) t7 (.slice B n d) (.slice (some ⟨gq, 0, none⟩) m d2) from (Go.heap_setCell_other w5 _ t7 _ (fun e => own_neG HQ2.out HT5.out (by decide) (by rw [e]; rfl))).trans HT5.out)
      have u0 := HQR.out.c0
      have u1 := HQR.out.c1
      have s0 := HT6.out.c0.1
      have s1 := HT6.out.c1.1
      go_wp2_with (fail)
      refine bodyPost_ret (ret_graph2 rfl _ _ _ rfl rfl ((HQR.out.s0 (.slice B n d)).s1 (.slice (some ⟨gq, 0, none⟩) m d2))) rfl ?_
      have hge2 := HGE.out
      have hgg := HGG.out
      subst hge2
      exact ⟨B, n, d, some ⟨gq, 0, none⟩, m, d2, rfl, own_set2 (own_set2 (HQ1.out.kept (HQ2.out.stored (i * 4 + 3) _).2 (.inr (own_ne2 HQ1.out HQ2.out (by decide)))) (own_neG HQ1.out HR5.out (by decide))) (own_neG HQ1.out HR5.out (by decide)), own_set2 (own_set2 (own_setL (j := 3) (y := turnL 4 x (lkA ls i)) HQ2.out hip (by decide) rfl) (own_neG HQ2.out HR5.out (by decide))) (own_neG HQ2.out HR5.out (by decide)), ((HB5.out.setCell (p := ⟨gq, i * 4 + 3, none⟩) (HQ2.out.lt gq rfl).1 _).setCell (p := ⟨g3, 0, none⟩) (by show _ ≤ g3; omega) _).setCell (p := ⟨g3, 1, none⟩) (by show _ ≤ g3; omega) _⟩
  · go_wp2_with (fail)
    refine (copy_any A A2 n c m c2 ns ls _ (GAT.out _ HB2.out).1 (GAT.out _ HB2.out).2 (by omega) (by omega)).mono ?_
    rintro e w3 ⟨B, d, B2, d2, rfl, o1, o2, hb⟩
    have HB3' := Lib.hid (HB2.out.trans (hb.mono hsz2))
    have HW1 := Lib.hid (HV1.out.below hb HV1.out.lt)
    have HW3 := Lib.hid (HV3.out.below hb HV3.out.lt)
    have HW2 := Lib.hid ((hb.block g2 (lt_of_heap HV2.out)).trans HV2.out)
    have HO1 := Lib.hid (own_mono o1 hsz2)
    have HO2 := Lib.hid (own_mono o2 hsz2)
    clear hb o1 o2 z0 z1 k0 k1 e0 e1 y0 y1 y2 y3
    have HT := Lib.hid (show GB (w3.alloc (.cells #[.slice B n d, .slice B2 m d2] 25)) w3.heap.size (.slice B n d) (.slice B2 m d2) from Go.heap_alloc_new w3 _)
    have HA1 := Lib.hid (HW1.out.alloc (.cells #[.slice B n d, .slice B2 m d2] 25))
    have HA3 := Lib.hid (HW3.out.alloc (.cells #[.slice B n d, .slice B2 m d2] 25))
    have HA2 := Lib.hid ((Go.heap_alloc_old w3 (.cells #[.slice B n d, .slice B2 m d2] 25) (lt_of_heap HW2.out)).trans HW2.out)
    have HP1 := Lib.hid (World.ownsRow.alloc HO1.out (.cells #[.slice B n d, .slice B2 m d2] 25))
    have HP2 := Lib.hid (World.ownsRow.alloc HO2.out (.cells #[.slice B n d, .slice B2 m d2] 25))
    have hsz3 : g1 ≤ w3.heap.size := by have := HW1.out.lt; omega
    have HAB := Lib.hid (HB3'.out.alloc hsz3 (.cells #[.slice B n d, .slice B2 m d2] 25))
    have HG3 := Lib.hid (show g3 < w3.heap.size from HW3.out.lt)
    have e0 := HA1.out.c0.1
    have e1 := HA1.out.c1.1
    have y0 : (w3.alloc (.cells #[.slice B n d, .slice B2 m d2] 25)).cell? ⟨g2, 0, none⟩ = some (.int .i64 5) := (Go.cell_of_row _ g2 0 _ _ _ HA2.out).trans rfl
    have y1 : (w3.alloc (.cells #[.slice B n d, .slice B2 m d2] 25)).cell? ⟨g2, 1, none⟩ = some (.int .i64 a) := (Go.cell_of_row _ g2 1 _ _ _ HA2.out).trans rfl
    have y2 : (w3.alloc (.cells #[.slice B n d, .slice B2 m d2] 25)).cell? ⟨g2, 2, none⟩ = some (.int .i64 b) := (Go.cell_of_row _ g2 2 _ _ _ HA2.out).trans rfl
    have y3 : (w3.alloc (.cells #[.slice B n d, .slice B2 m d2] 25)).cell? ⟨g2, 3, none⟩ = some (.float .f64 x) := (Go.cell_of_row _ g2 3 _ _ _ HA2.out).trans rfl
    go_wp2_with (fail)
    generalize w3.alloc (.cells #[.slice B n d, .slice B2 m d2] 25) = w4 at *
    generalize w3.heap.size = t7 at *
    have hsz4 : g1 ≤ w4.heap.size := by have := HA1.out.lt; omega
    cases hh : hasL ls (lkT a b)
    · have eqv : 4 = E := Eq.symm (HE2.out.trans ((ap_5 HBR.out).1.trans (by rw [hh]; rfl)))
      subst eqv
      have eqv : [] = NS := Eq.symm (HNZ.out (by decide))
      subst eqv
      have eqv : [] = LS := Eq.symm (HLZ.out (by decide))
      subst eqv
      refine (rlink_no (GAT.out _ HAB.out).2 HGD.out.RiseL (by omega) hh).mono ?_
      rintro e w5 ⟨rfl, hb⟩
      have HB5 := Lib.hid (HAB.out.trans (hb.mono hsz4))
      have HT5 := Lib.hid (HT.out.below hb HT.out.lt)
      have HR5 := Lib.hid (HA3.out.below hb HA3.out.lt)
      have HC5 := Lib.hid ((hb.block g2 (lt_of_heap HA2.out)).trans HA2.out)
      have HQ1 := Lib.hid (own_below HP1.out hb)
      have HQ2 := Lib.hid (own_below HP2.out hb)
      clear hb e0 e1 y0 y1 y2 y3
      obtain ⟨z0, k0⟩ := HR5.out.c0
      obtain ⟨z1, k1⟩ := HR5.out.c1
      have r0 := HT5.out.c0.1
      have r1 := HT5.out.c1.1
      have y0 : w5.cell? ⟨g2, 0, none⟩ = some (.int .i64 5) := (Go.cell_of_row w5 g2 0 _ _ _ HC5.out).trans rfl
      have y3 : w5.cell? ⟨g2, 3, none⟩ = some (.float .f64 x) := (Go.cell_of_row w5 g2 3 _ _ _ HC5.out).trans rfl
      go_wp2_with (fail)
      refine bodyPost_ret (ret_graph2 rfl _ _ _ rfl rfl ((HR5.out.s0 (.slice none 0 0)).s1 (.slice none 0 0))) rfl ?_
      have hge2 := HGE.out
      have hgg := HGG.out
      subst hge2
      exact ⟨none, 0, 0, none, 0, 0, rfl, World.ownsRow_nil _ _ _ _, World.ownsRow_nil _ _ _ _, (HB5.out.setCell (p := ⟨g3, 0, none⟩) (by show _ ≤ g3; omega) _).setCell (p := ⟨g3, 1, none⟩) (by show _ ≤ g3; omega) _⟩
    · refine (rlink_yes (GAT.out _ HAB.out).2 HGD.out.RiseL (by omega) hh).mono ?_
      rintro e w5 ⟨rfl, hb⟩
      have HB5 := Lib.hid (HAB.out.trans (hb.mono hsz4))
      have HT5 := Lib.hid (HT.out.below hb HT.out.lt)
      have HR5 := Lib.hid (HA3.out.below hb HA3.out.lt)
      have HC5 := Lib.hid ((hb.block g2 (lt_of_heap HA2.out)).trans HA2.out)
      have HQ1 := Lib.hid (own_below HP1.out hb)
      have HQ2 := Lib.hid (own_below HP2.out hb)
      clear hb e0 e1 y0 y1 y2 y3
      obtain ⟨z0, k0⟩ := HR5.out.c0
      obtain ⟨z1, k1⟩ := HR5.out.c1
      have r0 := HT5.out.c0.1
      have r1 := HT5.out.c1.1
      have y0 : w5.cell? ⟨g2, 0, none⟩ = some (.int .i64 5) := (Go.cell_of_row w5 g2 0 _ _ _ HC5.out).trans rfl
      have y3 : w5.cell? ⟨g2, 3, none⟩ = some (.float .f64 x) := (Go.cell_of_row w5 g2 3 _ _ _ HC5.out).trans rfl
      have hci := cnt_lk HGD.out.RiseL (t := lkT a b) hh
      have hml : ls.length = m := HL.out.1
      obtain ⟨gq, hAq⟩ : ∃ gq, B2 = some ⟨gq, 0, none⟩ := by
        rcases own_cases HQ2.out with ⟨_, h, _⟩ | ⟨gq, h, _⟩
        · have := hci.1; omega
        · exact ⟨gq, h⟩
      subst hAq
      have eqv : 0 = E := Eq.symm (HE2.out.trans ((ap_5 HBR.out).1.trans (by rw [hh]; rfl)))
      subst eqv
      have eqv : ns = NS := Eq.symm (by rw [HNP.out rfl, (ap_5 HBR.out).2.2])
      subst eqv
      have eqv : ls.set (cntL ls (lkT a b)) (turnL 5 x (lkA ls (cntL ls (lkT a b)))) = LS := Eq.symm (by rw [HLP.out rfl, (ap_5 HBR.out).2.1, if_pos hh]; rfl)
      subst eqv
      clear hh
      generalize cntL ls (lkT a b) = i at *
      have hip : i < m := by have := hci.1; omega
      have hi0 : ¬ ((i : Int) < 0) := by omega
      have hcc := HQ2.out.cellAt (i * 4 + 3) (by omega)
      rw [show (ls.flatMap lkC)[i * 4 + 3]? = _ from (lkC_get (l := ls) (i := i) (by omega)).2.2.2] at hcc
      have hff := HQ2.out.frozenAt (i * 4 + 3)
      clear hci
      have HQR := Lib.hid (show GB (w5.setCell ⟨gq, i * 4 + 3, none⟩ (.bool true)) g3 (.slice none 0 0) (.slice none 0 0) from (Go.heap_setCell_other w5 _ g3 _ (fun e => own_neG HQ2.out HR5.out (by decide) (by rw [e]; rfl))).trans HR5.out)
      have HT6 := Lib.hid (show GB (w5.setCell ⟨gq, i * 4 + 3, none⟩ (.bool true)) t7 (.slice B n d) (.slice (some ⟨gq, 0, none⟩) m d2) from (Go.heap_setCell_other w5 _ t7 _ (fun e => own_neG HQ2.out HT5.out (by decide) (by rw [e]; rfl))).trans HT5.out)
      have u0 := HQR.out.c0
      have u1 := HQR.out.c1
      have s0 := HT6.out.c0.1
      have s1 := HT6.out.c1.1
      go_wp2_with (fail)
      refine bodyPost_ret (ret_graph2 rfl _ _ _ rfl rfl ((HQR.out.s0 (.slice B n d)).s1 (.slice (some ⟨gq, 0, none⟩) m d2))) rfl ?_
      have hge2 := HGE.out
      have hgg := HGG.out
      subst hge2
      exact ⟨B, n, d, some ⟨gq, 0, none⟩, m, d2, rfl, own_set2 (own_set2 (HQ1.out.kept (HQ2.out.stored (i * 4 + 3) _).2 (.inr (own_ne2 HQ1.out HQ2.out (by decide)))) (own_neG HQ1.out HR5.out (by decide))) (own_neG HQ1.out HR5.out (by decide)), own_set2 (own_set2 (own_setL (j := 3) (y := turnL 5 x (lkA ls i)) HQ2.out hip (by decide) rfl) (own_neG HQ2.out HR5.out (by decide))) (own_neG HQ2.out HR5.out (by decide)), ((HB5.out.setCell (p := ⟨gq, i * 4 + 3, none⟩) (HQ2.out.lt gq rfl).1 _).setCell (p := ⟨g3, 0, none⟩) (by show _ ≤ g3; omega) _).setCell (p := ⟨g3, 1, none⟩) (by show _ ≤ g3; omega) _⟩
  · go_wp2_with (fail)
    refine (copy_any A A2 n c m c2 ns ls _ (GAT.out _ HB2.out).1 (GAT.out _ HB2.out).2 (by omega) (by omega)).mono ?_
    rintro e w3 ⟨B, d, B2, d2, rfl, o1, o2, hb⟩
    have HB3' := Lib.hid (HB2.out.trans (hb.mono hsz2))
    have HW1 := Lib.hid (HV1.out.below hb HV1.out.lt)
    have HW3 := Lib.hid (HV3.out.below hb HV3.out.lt)
    have HW2 := Lib.hid ((hb.block g2 (lt_of_heap HV2.out)).trans HV2.out)
    have HO1 := Lib.hid (own_mono o1 hsz2)
    have HO2 := Lib.hid (own_mono o2 hsz2)
    clear hb o1 o2 z0 z1 k0 k1 e0 e1 y0 y1 y2 y3
    have HT := Lib.hid (show GB (w3.alloc (.cells #[.slice B n d, .slice B2 m d2] 25)) w3.heap.size (.slice B n d) (.slice B2 m d2) from Go.heap_alloc_new w3 _)
    have HA1 := Lib.hid (HW1.out.alloc (.cells #[.slice B n d, .slice B2 m d2] 25))
    have HA3 := Lib.hid (HW3.out.alloc (.cells #[.slice B n d, .slice B2 m d2] 25))
    have HA2 := Lib.hid ((Go.heap_alloc_old w3 (.cells #[.slice B n d, .slice B2 m d2] 25) (lt_of_heap HW2.out)).trans HW2.out)
    have HP1 := Lib.hid (World.ownsRow.alloc HO1.out (.cells #[.slice B n d, .slice B2 m d2] 25))
    have HP2 := Lib.hid (World.ownsRow.alloc HO2.out (.cells #[.slice B n d, .slice B2 m d2] 25))
    have hsz3 : g1 ≤ w3.heap.size := by have := HW1.out.lt; omega
    have HAB := Lib.hid (HB3'.out.alloc hsz3 (.cells #[.slice B n d, .slice B2 m d2] 25))
    have HG3 := Lib.hid (show g3 < w3.heap.size from HW3.out.lt)
    have e0 := HA1.out.c0.1
    have e1 := HA1.out.c1.1
    have y0 : (w3.alloc (.cells #[.slice B n d, .slice B2 m d2] 25)).cell? ⟨g2, 0, none⟩ = some (.int .i64 6) := (Go.cell_of_row _ g2 0 _ _ _ HA2.out).trans rfl
    have y1 : (w3.alloc (.cells #[.slice B n d, .slice B2 m d2] 25)).cell? ⟨g2, 1, none⟩ = some (.int .i64 a) := (Go.cell_of_row _ g2 1 _ _ _ HA2.out).trans rfl
    have y2 : (w3.alloc (.cells #[.slice B n d, .slice B2 m d2] 25)).cell? ⟨g2, 2, none⟩ = some (.int .i64 b) := (Go.cell_of_row _ g2 2 _ _ _ HA2.out).trans rfl
    have y3 : (w3.alloc (.cells #[.slice B n d, .slice B2 m d2] 25)).cell? ⟨g2, 3, none⟩ = some (.float .f64 x) := (Go.cell_of_row _ g2 3 _ _ _ HA2.out).trans rfl
    go_wp2_with (fail)
    generalize w3.alloc (.cells #[.slice B n d, .slice B2 m d2] 25) = w4 at *
    generalize w3.heap.size = t7 at *
    have hsz4 : g1 ≤ w4.heap.size := by have := HA1.out.lt; omega
    cases hh : hasN ns a
    · have eqv : 4 = E := Eq.symm (HE2.out.trans ((ap_6 HBR.out).1.trans (by rw [hh]; rfl)))
      subst eqv
      have eqv : [] = NS := Eq.symm (HNZ.out (by decide))
      subst eqv
      have eqv : [] = LS := Eq.symm (HLZ.out (by decide))
      subst eqv
      refine (place_no (GAT.out _ HAB.out).1 (by omega) hh).mono ?_
      rintro e w5 ⟨rfl, hb⟩
      have HB5 := Lib.hid (HAB.out.trans (hb.mono hsz4))
      have HT5 := Lib.hid (HT.out.below hb HT.out.lt)
      have HR5 := Lib.hid (HA3.out.below hb HA3.out.lt)
      have HC5 := Lib.hid ((hb.block g2 (lt_of_heap HA2.out)).trans HA2.out)
      have HQ1 := Lib.hid (own_below HP1.out hb)
      have HQ2 := Lib.hid (own_below HP2.out hb)
      clear hb e0 e1 y0 y1 y2 y3
      obtain ⟨z0, k0⟩ := HR5.out.c0
      obtain ⟨z1, k1⟩ := HR5.out.c1
      have r0 := HT5.out.c0.1
      have r1 := HT5.out.c1.1
      have y0 : w5.cell? ⟨g2, 0, none⟩ = some (.int .i64 6) := (Go.cell_of_row w5 g2 0 _ _ _ HC5.out).trans rfl
      have y3 : w5.cell? ⟨g2, 3, none⟩ = some (.float .f64 x) := (Go.cell_of_row w5 g2 3 _ _ _ HC5.out).trans rfl
      go_wp2_with (fail)
      refine bodyPost_ret (ret_graph2 rfl _ _ _ rfl rfl ((HR5.out.s0 (.slice none 0 0)).s1 (.slice none 0 0))) rfl ?_
      have hge2 := HGE.out
      have hgg := HGG.out
      subst hge2
      exact ⟨none, 0, 0, none, 0, 0, rfl, World.ownsRow_nil _ _ _ _, World.ownsRow_nil _ _ _ _, (HB5.out.setCell (p := ⟨g3, 0, none⟩) (by show _ ≤ g3; omega) _).setCell (p := ⟨g3, 1, none⟩) (by show _ ≤ g3; omega) _⟩
    · have eqv : 0 = E := Eq.symm (HE2.out.trans ((ap_6 HBR.out).1.trans (by rw [hh]; rfl)))
      subst eqv
      have eqv : ls = LS := Eq.symm (by rw [HLP.out rfl, (ap_6 HBR.out).2.2])
      subst eqv
      refine (place_yes (GAT.out _ HAB.out).1 (by omega) hh).mono ?_
      rintro e w5 ⟨i, rfl, hip, hid, hb⟩
      have HB5 := Lib.hid (HAB.out.trans (hb.mono hsz4))
      have HT5 := Lib.hid (HT.out.below hb HT.out.lt)
      have HR5 := Lib.hid (HA3.out.below hb HA3.out.lt)
      have HC5 := Lib.hid ((hb.block g2 (lt_of_heap HA2.out)).trans HA2.out)
      have HQ1 := Lib.hid (own_below HP1.out hb)
      have HQ2 := Lib.hid (own_below HP2.out hb)
      clear hb e0 e1 y0 y1 y2 y3
      obtain ⟨z0, k0⟩ := HR5.out.c0
      obtain ⟨z1, k1⟩ := HR5.out.c1
      have r0 := HT5.out.c0.1
      have r1 := HT5.out.c1.1
      have y0 : w5.cell? ⟨g2, 0, none⟩ = some (.int .i64 6) := (Go.cell_of_row w5 g2 0 _ _ _ HC5.out).trans rfl
      have y3 : w5.cell? ⟨g2, 3, none⟩ = some (.float .f64 x) := (Go.cell_of_row w5 g2 3 _ _ _ HC5.out).trans rfl
      have hnl : ns.length = n := HN.out.1
      have hci := cnt_uni HGD.out.Rise (x := a) (i := i) (by omega) hid
      have eqv : ns.set i (turnN 6 (ndA ns i)) = NS := Eq.symm (by rw [HNP.out rfl, (ap_6 HBR.out).2.1, if_pos hh]; unfold modN; rw [hci])
      subst eqv
      clear hid hci
      obtain ⟨gq, hAq⟩ : ∃ gq, B = some ⟨gq, 0, none⟩ := by
        rcases own_cases HQ1.out with ⟨_, h, _⟩ | ⟨gq, h, _⟩
        · omega
        · exact ⟨gq, h⟩
      subst hAq
      have hi0 : ¬ ((i : Int) < 0) := by omega
      have hcc := HQ1.out.cellAt (i * 3 + 2) (by omega)
      rw [show (ns.flatMap ndC)[i * 3 + 2]? = _ from (ndC_get (l := ns) (i := i) (by omega)).2.2] at hcc
      have hff := HQ1.out.frozenAt (i * 3 + 2)
      have HQR := Lib.hid (show GB (w5.setCell ⟨gq, i * 3 + 2, none⟩ (.bool true)) g3 (.slice none 0 0) (.slice none 0 0) from (Go.heap_setCell_other w5 _ g3 _ (fun e => own_neG HQ1.out HR5.out (by decide) (by rw [e]; rfl))).trans HR5.out)
      have HT6 := Lib.hid (show GB (w5.setCell ⟨gq, i * 3 + 2, none⟩ (.bool true)) t7 (.slice (some ⟨gq, 0, none⟩) n d) (.slice B2 m d2) from (Go.heap_setCell_other w5 _ t7 _ (fun e => own_neG HQ1.out HT5.out (by decide) (by rw [e]; rfl))).trans HT5.out)
      have u0 := HQR.out.c0
      have u1 := HQR.out.c1
      have s0 := HT6.out.c0.1
      have s1 := HT6.out.c1.1
      go_wp2_with (fail)
      refine bodyPost_ret (ret_graph2 rfl _ _ _ rfl rfl ((HQR.out.s0 (.slice (some ⟨gq, 0, none⟩) n d)).s1 (.slice B2 m d2))) rfl ?_
      have hge2 := HGE.out
      have hgg := HGG.out
      subst hge2
      exact ⟨some ⟨gq, 0, none⟩, n, d, B2, m, d2, rfl, own_set2 (own_set2 (own_setN (j := 2) (y := turnN 6 (ndA ns i)) HQ1.out hip (by decide) rfl) (own_neG HQ1.out HR5.out (by decide))) (own_neG HQ1.out HR5.out (by decide)), own_set2 (own_set2 (HQ2.out.kept (HQ1.out.stored (i * 3 + 2) _).2 (.inr (own_ne2 HQ2.out HQ1.out (by decide)))) (own_neG HQ2.out HR5.out (by decide))) (own_neG HQ2.out HR5.out (by decide)), ((HB5.out.setCell (p := ⟨gq, i * 3 + 2, none⟩) (HQ1.out.lt gq rfl).1 _).setCell (p := ⟨g3, 0, none⟩) (by show _ ≤ g3; omega) _).setCell (p := ⟨g3, 1, none⟩) (by show _ ≤ g3; omega) _⟩
  · go_wp2_with (fail)
    refine (copy_any A A2 n c m c2 ns ls _ (GAT.out _ HB2.out).1 (GAT.out _ HB2.out).2 (by omega) (by omega)).mono ?_
    rintro e w3 ⟨B, d, B2, d2, rfl, o1, o2, hb⟩
    have HB3' := Lib.hid (HB2.out.trans (hb.mono hsz2))
    have HW1 := Lib.hid (HV1.out.below hb HV1.out.lt)
    have HW3 := Lib.hid (HV3.out.below hb HV3.out.lt)
    have HW2 := Lib.hid ((hb.block g2 (lt_of_heap HV2.out)).trans HV2.out)
    have HO1 := Lib.hid (own_mono o1 hsz2)
    have HO2 := Lib.hid (own_mono o2 hsz2)
    clear hb o1 o2 z0 z1 k0 k1 e0 e1 y0 y1 y2 y3
    have HT := Lib.hid (show GB (w3.alloc (.cells #[.slice B n d, .slice B2 m d2] 25)) w3.heap.size (.slice B n d) (.slice B2 m d2) from Go.heap_alloc_new w3 _)
    have HA1 := Lib.hid (HW1.out.alloc (.cells #[.slice B n d, .slice B2 m d2] 25))
    have HA3 := Lib.hid (HW3.out.alloc (.cells #[.slice B n d, .slice B2 m d2] 25))
    have HA2 := Lib.hid ((Go.heap_alloc_old w3 (.cells #[.slice B n d, .slice B2 m d2] 25) (lt_of_heap HW2.out)).trans HW2.out)
    have HP1 := Lib.hid (World.ownsRow.alloc HO1.out (.cells #[.slice B n d, .slice B2 m d2] 25))
    have HP2 := Lib.hid (World.ownsRow.alloc HO2.out (.cells #[.slice B n d, .slice B2 m d2] 25))
    have hsz3 : g1 ≤ w3.heap.size := by have := HW1.out.lt; omega
    have HAB := Lib.hid (HB3'.out.alloc hsz3 (.cells #[.slice B n d, .slice B2 m d2] 25))
    have HG3 := Lib.hid (show g3 < w3.heap.size from HW3.out.lt)
    have e0 := HA1.out.c0.1
    have e1 := HA1.out.c1.1
    have y0 : (w3.alloc (.cells #[.slice B n d, .slice B2 m d2] 25)).cell? ⟨g2, 0, none⟩ = some (.int .i64 7) := (Go.cell_of_row _ g2 0 _ _ _ HA2.out).trans rfl
    have y1 : (w3.alloc (.cells #[.slice B n d, .slice B2 m d2] 25)).cell? ⟨g2, 1, none⟩ = some (.int .i64 a) := (Go.cell_of_row _ g2 1 _ _ _ HA2.out).trans rfl
    have y2 : (w3.alloc (.cells #[.slice B n d, .slice B2 m d2] 25)).cell? ⟨g2, 2, none⟩ = some (.int .i64 b) := (Go.cell_of_row _ g2 2 _ _ _ HA2.out).trans rfl
    have y3 : (w3.alloc (.cells #[.slice B n d, .slice B2 m d2] 25)).cell? ⟨g2, 3, none⟩ = some (.float .f64 x) := (Go.cell_of_row _ g2 3 _ _ _ HA2.out).trans rfl
    go_wp2_with (fail)
    generalize w3.alloc (.cells #[.slice B n d, .slice B2 m d2] 25) = w4 at *
    generalize w3.heap.size = t7 at *
    have hsz4 : g1 ≤ w4.heap.size := by have := HA1.out.lt; omega
    cases hh : hasN ns a
    · have eqv : 4 = E := Eq.symm (HE2.out.trans ((ap_7 HBR.out).1.trans (by rw [hh]; rfl)))
      subst eqv
      have eqv : [] = NS := Eq.symm (HNZ.out (by decide))
      subst eqv
      have eqv : [] = LS := Eq.symm (HLZ.out (by decide))
      subst eqv
      refine (place_no (GAT.out _ HAB.out).1 (by omega) hh).mono ?_
      rintro e w5 ⟨rfl, hb⟩
      have HB5 := Lib.hid (HAB.out.trans (hb.mono hsz4))
      have HT5 := Lib.hid (HT.out.below hb HT.out.lt)
      have HR5 := Lib.hid (HA3.out.below hb HA3.out.lt)
      have HC5 := Lib.hid ((hb.block g2 (lt_of_heap HA2.out)).trans HA2.out)
      have HQ1 := Lib.hid (own_below HP1.out hb)
      have HQ2 := Lib.hid (own_below HP2.out hb)
      clear hb e0 e1 y0 y1 y2 y3
      obtain ⟨z0, k0⟩ := HR5.out.c0
      obtain ⟨z1, k1⟩ := HR5.out.c1
      have r0 := HT5.out.c0.1
      have r1 := HT5.out.c1.1
      have y0 : w5.cell? ⟨g2, 0, none⟩ = some (.int .i64 7) := (Go.cell_of_row w5 g2 0 _ _ _ HC5.out).trans rfl
      have y3 : w5.cell? ⟨g2, 3, none⟩ = some (.float .f64 x) := (Go.cell_of_row w5 g2 3 _ _ _ HC5.out).trans rfl
      go_wp2_with (fail)
      refine bodyPost_ret (ret_graph2 rfl _ _ _ rfl rfl ((HR5.out.s0 (.slice none 0 0)).s1 (.slice none 0 0))) rfl ?_
      have hge2 := HGE.out
      have hgg := HGG.out
      subst hge2
      exact ⟨none, 0, 0, none, 0, 0, rfl, World.ownsRow_nil _ _ _ _, World.ownsRow_nil _ _ _ _, (HB5.out.setCell (p := ⟨g3, 0, none⟩) (by show _ ≤ g3; omega) _).setCell (p := ⟨g3, 1, none⟩) (by show _ ≤ g3; omega) _⟩
    · have eqv : 0 = E := Eq.symm (HE2.out.trans ((ap_7 HBR.out).1.trans (by rw [hh]; rfl)))
      subst eqv
      have eqv : ls = LS := Eq.symm (by rw [HLP.out rfl, (ap_7 HBR.out).2.2])
      subst eqv
      refine (place_yes (GAT.out _ HAB.out).1 (by omega) hh).mono ?_
      rintro e w5 ⟨i, rfl, hip, hid, hb⟩
      have HB5 := Lib.hid (HAB.out.trans (hb.mono hsz4))
      have HT5 := Lib.hid (HT.out.below hb HT.out.lt)
      have HR5 := Lib.hid (HA3.out.below hb HA3.out.lt)
      have HC5 := Lib.hid ((hb.block g2 (lt_of_heap HA2.out)).trans HA2.out)
      have HQ1 := Lib.hid (own_below HP1.out hb)
      have HQ2 := Lib.hid (own_below HP2.out hb)
      clear hb e0 e1 y0 y1 y2 y3
      obtain ⟨z0, k0⟩ := HR5.out.c0
      obtain ⟨z1, k1⟩ := HR5.out.c1
      have r0 := HT5.out.c0.1
      have r1 := HT5.out.c1.1
      have y0 : w5.cell? ⟨g2, 0, none⟩ = some (.int .i64 7) := (Go.cell_of_row w5 g2 0 _ _ _ HC5.out).trans rfl
      have y3 : w5.cell? ⟨g2, 3, none⟩ = some (.float .f64 x) := (Go.cell_of_row w5 g2 3 _ _ _ HC5.out).trans rfl
      have hnl : ns.length = n := HN.out.1
      have hci := cnt_uni HGD.out.Rise (x := a) (i := i) (by omega) hid
      have eqv : ns.set i (turnN 7 (ndA ns i)) = NS := Eq.symm (by rw [HNP.out rfl, (ap_7 HBR.out).2.1, if_pos hh]; unfold modN; rw [hci])
      subst eqv
      clear hid hci
      obtain ⟨gq, hAq⟩ : ∃ gq, B = some ⟨gq, 0, none⟩ := by
        rcases own_cases HQ1.out with ⟨_, h, _⟩ | ⟨gq, h, _⟩
        · omega
        · exact ⟨gq, h⟩
      subst hAq
      have hi0 : ¬ ((i : Int) < 0) := by omega
      have hcc := HQ1.out.cellAt (i * 3 + 2) (by omega)
      rw [show (ns.flatMap ndC)[i * 3 + 2]? = _ from (ndC_get (l := ns) (i := i) (by omega)).2.2] at hcc
      have hff := HQ1.out.frozenAt (i * 3 + 2)
      have HQR := Lib.hid (show GB (w5.setCell ⟨gq, i * 3 + 2, none⟩ (.bool false)) g3 (.slice none 0 0) (.slice none 0 0) from (Go.heap_setCell_other w5 _ g3 _ (fun e => own_neG HQ1.out HR5.out (by decide) (by rw [e]; rfl))).trans HR5.out)
      have HT6 := Lib.hid (show GB (w5.setCell ⟨gq, i * 3 + 2, none⟩ (.bool false)) t7 (.slice (some ⟨gq, 0, none⟩) n d) (.slice B2 m d2) from (Go.heap_setCell_other w5 _ t7 _ (fun e => own_neG HQ1.out HT5.out (by decide) (by rw [e]; rfl))).trans HT5.out)
      have u0 := HQR.out.c0
      have u1 := HQR.out.c1
      have s0 := HT6.out.c0.1
      have s1 := HT6.out.c1.1
      go_wp2_with (fail)
      refine bodyPost_ret (ret_graph2 rfl _ _ _ rfl rfl ((HQR.out.s0 (.slice (some ⟨gq, 0, none⟩) n d)).s1 (.slice B2 m d2))) rfl ?_
      have hge2 := HGE.out
      have hgg := HGG.out
      subst hge2
      exact ⟨some ⟨gq, 0, none⟩, n, d, B2, m, d2, rfl, own_set2 (own_set2 (own_setN (j := 2) (y := turnN 7 (ndA ns i)) HQ1.out hip (by decide) rfl) (own_neG HQ1.out HR5.out (by decide))) (own_neG HQ1.out HR5.out (by decide)), own_set2 (own_set2 (HQ2.out.kept (HQ1.out.stored (i * 3 + 2) _).2 (.inr (own_ne2 HQ2.out HQ1.out (by decide)))) (own_neG HQ2.out HR5.out (by decide))) (own_neG HQ2.out HR5.out (by decide)), ((HB5.out.setCell (p := ⟨gq, i * 3 + 2, none⟩) (HQ1.out.lt gq rfl).1 _).setCell (p := ⟨g3, 0, none⟩) (by show _ ≤ g3; omega) _).setCell (p := ⟨g3, 1, none⟩) (by show _ ≤ g3; omega) _⟩
  · go_wp2_with (fail)
    refine (copy_any A A2 n c m c2 ns ls _ (GAT.out _ HB2.out).1 (GAT.out _ HB2.out).2 (by omega) (by omega)).mono ?_
    rintro e w3 ⟨B, d, B2, d2, rfl, o1, o2, hb⟩
    have HB3' := Lib.hid (HB2.out.trans (hb.mono hsz2))
    have HW1 := Lib.hid (HV1.out.below hb HV1.out.lt)
    have HW3 := Lib.hid (HV3.out.below hb HV3.out.lt)
    have HW2 := Lib.hid ((hb.block g2 (lt_of_heap HV2.out)).trans HV2.out)
    have HO1 := Lib.hid (own_mono o1 hsz2)
    have HO2 := Lib.hid (own_mono o2 hsz2)
    clear hb o1 o2 z0 z1 k0 k1 e0 e1 y0 y1 y2 y3
    have HT := Lib.hid (show GB (w3.alloc (.cells #[.slice B n d, .slice B2 m d2] 25)) w3.heap.size (.slice B n d) (.slice B2 m d2) from Go.heap_alloc_new w3 _)
    have HA1 := Lib.hid (HW1.out.alloc (.cells #[.slice B n d, .slice B2 m d2] 25))
    have HA3 := Lib.hid (HW3.out.alloc (.cells #[.slice B n d, .slice B2 m d2] 25))
    have HA2 := Lib.hid ((Go.heap_alloc_old w3 (.cells #[.slice B n d, .slice B2 m d2] 25) (lt_of_heap HW2.out)).trans HW2.out)
    have HP1 := Lib.hid (World.ownsRow.alloc HO1.out (.cells #[.slice B n d, .slice B2 m d2] 25))
    have HP2 := Lib.hid (World.ownsRow.alloc HO2.out (.cells #[.slice B n d, .slice B2 m d2] 25))
    have hsz3 : g1 ≤ w3.heap.size := by have := HW1.out.lt; omega
    have HAB := Lib.hid (HB3'.out.alloc hsz3 (.cells #[.slice B n d, .slice B2 m d2] 25))
    have HG3 := Lib.hid (show g3 < w3.heap.size from HW3.out.lt)
    have e0 := HA1.out.c0.1
    have e1 := HA1.out.c1.1
    have y0 : (w3.alloc (.cells #[.slice B n d, .slice B2 m d2] 25)).cell? ⟨g2, 0, none⟩ = some (.int .i64 8) := (Go.cell_of_row _ g2 0 _ _ _ HA2.out).trans rfl
    have y1 : (w3.alloc (.cells #[.slice B n d, .slice B2 m d2] 25)).cell? ⟨g2, 1, none⟩ = some (.int .i64 a) := (Go.cell_of_row _ g2 1 _ _ _ HA2.out).trans rfl
    have y2 : (w3.alloc (.cells #[.slice B n d, .slice B2 m d2] 25)).cell? ⟨g2, 2, none⟩ = some (.int .i64 b) := (Go.cell_of_row _ g2 2 _ _ _ HA2.out).trans rfl
    have y3 : (w3.alloc (.cells #[.slice B n d, .slice B2 m d2] 25)).cell? ⟨g2, 3, none⟩ = some (.float .f64 x) := (Go.cell_of_row _ g2 3 _ _ _ HA2.out).trans rfl
    go_wp2_with (fail)
    generalize w3.alloc (.cells #[.slice B n d, .slice B2 m d2] 25) = w4 at *
    generalize w3.heap.size = t7 at *
    have hsz4 : g1 ≤ w4.heap.size := by have := HA1.out.lt; omega
    cases hh : hasN ns a
    · have eqv : 4 = E := Eq.symm (HE2.out.trans ((ap_8 HBR.out).1.trans (by rw [hh]; rfl)))
      subst eqv
      have eqv : [] = NS := Eq.symm (HNZ.out (by decide))
      subst eqv
      have eqv : [] = LS := Eq.symm (HLZ.out (by decide))
      subst eqv
      refine (place_no (GAT.out _ HAB.out).1 (by omega) hh).mono ?_
      rintro e w5 ⟨rfl, hb⟩
      have HB5 := Lib.hid (HAB.out.trans (hb.mono hsz4))
      have HT5 := Lib.hid (HT.out.below hb HT.out.lt)
      have HR5 := Lib.hid (HA3.out.below hb HA3.out.lt)
      have HC5 := Lib.hid ((hb.block g2 (lt_of_heap HA2.out)).trans HA2.out)
      have HQ1 := Lib.hid (own_below HP1.out hb)
      have HQ2 := Lib.hid (own_below HP2.out hb)
      clear hb e0 e1 y0 y1 y2 y3
      obtain ⟨z0, k0⟩ := HR5.out.c0
      obtain ⟨z1, k1⟩ := HR5.out.c1
      have r0 := HT5.out.c0.1
      have r1 := HT5.out.c1.1
      have y0 : w5.cell? ⟨g2, 0, none⟩ = some (.int .i64 8) := (Go.cell_of_row w5 g2 0 _ _ _ HC5.out).trans rfl
      have y3 : w5.cell? ⟨g2, 3, none⟩ = some (.float .f64 x) := (Go.cell_of_row w5 g2 3 _ _ _ HC5.out).trans rfl
      go_wp2_with (fail)
      refine bodyPost_ret (ret_graph2 rfl _ _ _ rfl rfl ((HR5.out.s0 (.slice none 0 0)).s1 (.slice none 0 0))) rfl ?_
      have hge2 := HGE.out
      have hgg := HGG.out
      subst hge2
      exact ⟨none, 0, 0, none, 0, 0, rfl, World.ownsRow_nil _ _ _ _, World.ownsRow_nil _ _ _ _, (HB5.out.setCell (p := ⟨g3, 0, none⟩) (by show _ ≤ g3; omega) _).setCell (p := ⟨g3, 1, none⟩) (by show _ ≤ g3; omega) _⟩
    · have eqv : 0 = E := Eq.symm (HE2.out.trans ((ap_8 HBR.out).1.trans (by rw [hh]; rfl)))
      subst eqv
      have eqv : ls = LS := Eq.symm (by rw [HLP.out rfl, (ap_8 HBR.out).2.2])
      subst eqv
      refine (place_yes (GAT.out _ HAB.out).1 (by omega) hh).mono ?_
      rintro e w5 ⟨i, rfl, hip, hid, hb⟩
      have HB5 := Lib.hid (HAB.out.trans (hb.mono hsz4))
      have HT5 := Lib.hid (HT.out.below hb HT.out.lt)
      have HR5 := Lib.hid (HA3.out.below hb HA3.out.lt)
      have HC5 := Lib.hid ((hb.block g2 (lt_of_heap HA2.out)).trans HA2.out)
      have HQ1 := Lib.hid (own_below HP1.out hb)
      have HQ2 := Lib.hid (own_below HP2.out hb)
      clear hb e0 e1 y0 y1 y2 y3
      obtain ⟨z0, k0⟩ := HR5.out.c0
      obtain ⟨z1, k1⟩ := HR5.out.c1
      have r0 := HT5.out.c0.1
      have r1 := HT5.out.c1.1
      have y0 : w5.cell? ⟨g2, 0, none⟩ = some (.int .i64 8) := (Go.cell_of_row w5 g2 0 _ _ _ HC5.out).trans rfl
      have y3 : w5.cell? ⟨g2, 3, none⟩ = some (.float .f64 x) := (Go.cell_of_row w5 g2 3 _ _ _ HC5.out).trans rfl
      have hnl : ns.length = n := HN.out.1
      have hci := cnt_uni HGD.out.Rise (x := a) (i := i) (by omega) hid
      have eqv : ns.set i (turnN 8 (ndA ns i)) = NS := Eq.symm (by rw [HNP.out rfl, (ap_8 HBR.out).2.1, if_pos hh]; unfold modN; rw [hci])
      subst eqv
      clear hid hci
      obtain ⟨gq, hAq⟩ : ∃ gq, B = some ⟨gq, 0, none⟩ := by
        rcases own_cases HQ1.out with ⟨_, h, _⟩ | ⟨gq, h, _⟩
        · omega
        · exact ⟨gq, h⟩
      subst hAq
      have hi0 : ¬ ((i : Int) < 0) := by omega
      have hcc := HQ1.out.cellAt (i * 3 + 1) (by omega)
      rw [show (ns.flatMap ndC)[i * 3 + 1]? = _ from (ndC_get (l := ns) (i := i) (by omega)).2.1] at hcc
      have hff := HQ1.out.frozenAt (i * 3 + 1)
      have HQR := Lib.hid (show GB (w5.setCell ⟨gq, i * 3 + 1, none⟩ (.bool false)) g3 (.slice none 0 0) (.slice none 0 0) from (Go.heap_setCell_other w5 _ g3 _ (fun e => own_neG HQ1.out HR5.out (by decide) (by rw [e]; rfl))).trans HR5.out)
      have HT6 := Lib.hid (show GB (w5.setCell ⟨gq, i * 3 + 1, none⟩ (.bool false)) t7 (.slice (some ⟨gq, 0, none⟩) n d) (.slice B2 m d2) from (Go.heap_setCell_other w5 _ t7 _ (fun e => own_neG HQ1.out HT5.out (by decide) (by rw [e]; rfl))).trans HT5.out)
      have u0 := HQR.out.c0
      have u1 := HQR.out.c1
      have s0 := HT6.out.c0.1
      have s1 := HT6.out.c1.1
      go_wp2_with (fail)
      refine bodyPost_ret (ret_graph2 rfl _ _ _ rfl rfl ((HQR.out.s0 (.slice (some ⟨gq, 0, none⟩) n d)).s1 (.slice B2 m d2))) rfl ?_
      have hge2 := HGE.out
      have hgg := HGG.out
      subst hge2
      exact ⟨some ⟨gq, 0, none⟩, n, d, B2, m, d2, rfl, own_set2 (own_set2 (own_setN (j := 1) (y := turnN 8 (ndA ns i)) HQ1.out hip (by decide) rfl) (own_neG HQ1.out HR5.out (by decide))) (own_neG HQ1.out HR5.out (by decide)), own_set2 (own_set2 (HQ2.out.kept (HQ1.out.stored (i * 3 + 1) _).2 (.inr (own_ne2 HQ2.out HQ1.out (by decide)))) (own_neG HQ2.out HR5.out (by decide))) (own_neG HQ2.out HR5.out (by decide)), ((HB5.out.setCell (p := ⟨gq, i * 3 + 1, none⟩) (HQ1.out.lt gq rfl).1 _).setCell (p := ⟨g3, 0, none⟩) (by show _ ≤ g3; omega) _).setCell (p := ⟨g3, 1, none⟩) (by show _ ≤ g3; omega) _⟩
  · go_wp2_with (fail)
    refine (copy_any A A2 n c m c2 ns ls _ (GAT.out _ HB2.out).1 (GAT.out _ HB2.out).2 (by omega) (by omega)).mono ?_
    rintro e w3 ⟨B, d, B2, d2, rfl, o1, o2, hb⟩
    have HB3' := Lib.hid (HB2.out.trans (hb.mono hsz2))
    have HW1 := Lib.hid (HV1.out.below hb HV1.out.lt)
    have HW3 := Lib.hid (HV3.out.below hb HV3.out.lt)
    have HW2 := Lib.hid ((hb.block g2 (lt_of_heap HV2.out)).trans HV2.out)
    have HO1 := Lib.hid (own_mono o1 hsz2)
    have HO2 := Lib.hid (own_mono o2 hsz2)
    clear hb o1 o2 z0 z1 k0 k1 e0 e1 y0 y1 y2 y3
    have HT := Lib.hid (show GB (w3.alloc (.cells #[.slice B n d, .slice B2 m d2] 25)) w3.heap.size (.slice B n d) (.slice B2 m d2) from Go.heap_alloc_new w3 _)
    have HA1 := Lib.hid (HW1.out.alloc (.cells #[.slice B n d, .slice B2 m d2] 25))
    have HA3 := Lib.hid (HW3.out.alloc (.cells #[.slice B n d, .slice B2 m d2] 25))
    have HA2 := Lib.hid ((Go.heap_alloc_old w3 (.cells #[.slice B n d, .slice B2 m d2] 25) (lt_of_heap HW2.out)).trans HW2.out)
    have HP1 := Lib.hid (World.ownsRow.alloc HO1.out (.cells #[.slice B n d, .slice B2 m d2] 25))
    have HP2 := Lib.hid (World.ownsRow.alloc HO2.out (.cells #[.slice B n d, .slice B2 m d2] 25))
    have hsz3 : g1 ≤ w3.heap.size := by have := HW1.out.lt; omega
    have HAB := Lib.hid (HB3'.out.alloc hsz3 (.cells #[.slice B n d, .slice B2 m d2] 25))
    have HG3 := Lib.hid (show g3 < w3.heap.size from HW3.out.lt)
    have e0 := HA1.out.c0.1
    have e1 := HA1.out.c1.1
    have y0 : (w3.alloc (.cells #[.slice B n d, .slice B2 m d2] 25)).cell? ⟨g2, 0, none⟩ = some (.int .i64 9) := (Go.cell_of_row _ g2 0 _ _ _ HA2.out).trans rfl
    have y1 : (w3.alloc (.cells #[.slice B n d, .slice B2 m d2] 25)).cell? ⟨g2, 1, none⟩ = some (.int .i64 a) := (Go.cell_of_row _ g2 1 _ _ _ HA2.out).trans rfl
    have y2 : (w3.alloc (.cells #[.slice B n d, .slice B2 m d2] 25)).cell? ⟨g2, 2, none⟩ = some (.int .i64 b) := (Go.cell_of_row _ g2 2 _ _ _ HA2.out).trans rfl
    have y3 : (w3.alloc (.cells #[.slice B n d, .slice B2 m d2] 25)).cell? ⟨g2, 3, none⟩ = some (.float .f64 x) := (Go.cell_of_row _ g2 3 _ _ _ HA2.out).trans rfl
    go_wp2_with (fail)
    generalize w3.alloc (.cells #[.slice B n d, .slice B2 m d2] 25) = w4 at *
    generalize w3.heap.size = t7 at *
    have hsz4 : g1 ≤ w4.heap.size := by have := HA1.out.lt; omega
    cases hh : hasN ns a
    · have eqv : 4 = E := Eq.symm (HE2.out.trans ((ap_9 HBR.out).1.trans (by rw [hh]; rfl)))
      subst eqv
      have eqv : [] = NS := Eq.symm (HNZ.out (by decide))
      subst eqv
      have eqv : [] = LS := Eq.symm (HLZ.out (by decide))
      subst eqv
      refine (place_no (GAT.out _ HAB.out).1 (by omega) hh).mono ?_
      rintro e w5 ⟨rfl, hb⟩
      have HB5 := Lib.hid (HAB.out.trans (hb.mono hsz4))
      have HT5 := Lib.hid (HT.out.below hb HT.out.lt)
      have HR5 := Lib.hid (HA3.out.below hb HA3.out.lt)
      have HC5 := Lib.hid ((hb.block g2 (lt_of_heap HA2.out)).trans HA2.out)
      have HQ1 := Lib.hid (own_below HP1.out hb)
      have HQ2 := Lib.hid (own_below HP2.out hb)
      clear hb e0 e1 y0 y1 y2 y3
      obtain ⟨z0, k0⟩ := HR5.out.c0
      obtain ⟨z1, k1⟩ := HR5.out.c1
      have r0 := HT5.out.c0.1
      have r1 := HT5.out.c1.1
      have y0 : w5.cell? ⟨g2, 0, none⟩ = some (.int .i64 9) := (Go.cell_of_row w5 g2 0 _ _ _ HC5.out).trans rfl
      have y3 : w5.cell? ⟨g2, 3, none⟩ = some (.float .f64 x) := (Go.cell_of_row w5 g2 3 _ _ _ HC5.out).trans rfl
      go_wp2_with (fail)
      refine bodyPost_ret (ret_graph2 rfl _ _ _ rfl rfl ((HR5.out.s0 (.slice none 0 0)).s1 (.slice none 0 0))) rfl ?_
      have hge2 := HGE.out
      have hgg := HGG.out
      subst hge2
      exact ⟨none, 0, 0, none, 0, 0, rfl, World.ownsRow_nil _ _ _ _, World.ownsRow_nil _ _ _ _, (HB5.out.setCell (p := ⟨g3, 0, none⟩) (by show _ ≤ g3; omega) _).setCell (p := ⟨g3, 1, none⟩) (by show _ ≤ g3; omega) _⟩
    · have eqv : 0 = E := Eq.symm (HE2.out.trans ((ap_9 HBR.out).1.trans (by rw [hh]; rfl)))
      subst eqv
      have eqv : ls = LS := Eq.symm (by rw [HLP.out rfl, (ap_9 HBR.out).2.2])
      subst eqv
      refine (place_yes (GAT.out _ HAB.out).1 (by omega) hh).mono ?_
      rintro e w5 ⟨i, rfl, hip, hid, hb⟩
      have HB5 := Lib.hid (HAB.out.trans (hb.mono hsz4))
      have HT5 := Lib.hid (HT.out.below hb HT.out.lt)
      have HR5 := Lib.hid (HA3.out.below hb HA3.out.lt)
      have HC5 := Lib.hid ((hb.block g2 (lt_of_heap HA2.out)).trans HA2.out)
      have HQ1 := Lib.hid (own_below HP1.out hb)
      have HQ2 := Lib.hid (own_below HP2.out hb)
      clear hb e0 e1 y0 y1 y2 y3
      obtain ⟨z0, k0⟩ := HR5.out.c0
      obtain ⟨z1, k1⟩ := HR5.out.c1
      have r0 := HT5.out.c0.1
      have r1 := HT5.out.c1.1
      have y0 : w5.cell? ⟨g2, 0, none⟩ = some (.int .i64 9) := (Go.cell_of_row w5 g2 0 _ _ _ HC5.out).trans rfl
      have y3 : w5.cell? ⟨g2, 3, none⟩ = some (.float .f64 x) := (Go.cell_of_row w5 g2 3 _ _ _ HC5.out).trans rfl
      have hnl : ns.length = n := HN.out.1
      have hci := cnt_uni HGD.out.Rise (x := a) (i := i) (by omega) hid
      have eqv : ns.set i (turnN 9 (ndA ns i)) = NS := Eq.symm (by rw [HNP.out rfl, (ap_9 HBR.out).2.1, if_pos hh]; unfold modN; rw [hci])
      subst eqv
      clear hid hci
      obtain ⟨gq, hAq⟩ : ∃ gq, B = some ⟨gq, 0, none⟩ := by
        rcases own_cases HQ1.out with ⟨_, h, _⟩ | ⟨gq, h, _⟩
        · omega
        · exact ⟨gq, h⟩
      subst hAq
      have hi0 : ¬ ((i : Int) < 0) := by omega
      have hcc := HQ1.out.cellAt (i * 3 + 1) (by omega)
      rw [show (ns.flatMap ndC)[i * 3 + 1]? = _ from (ndC_get (l := ns) (i := i) (by omega)).2.1] at hcc
      have hff := HQ1.out.frozenAt (i * 3 + 1)
      have HQR := Lib.hid (show GB (w5.setCell ⟨gq, i * 3 + 1, none⟩ (.bool true)) g3 (.slice none 0 0) (.slice none 0 0) from (Go.heap_setCell_other w5 _ g3 _ (fun e => own_neG HQ1.out HR5.out (by decide) (by rw [e]; rfl))).trans HR5.out)
      have HT6 := Lib.hid (show GB (w5.setCell ⟨gq, i * 3 + 1, none⟩ (.bool true)) t7 (.slice (some ⟨gq, 0, none⟩) n d) (.slice B2 m d2) from (Go.heap_setCell_other w5 _ t7 _ (fun e => own_neG HQ1.out HT5.out (by decide) (by rw [e]; rfl))).trans HT5.out)
      have u0 := HQR.out.c0
      have u1 := HQR.out.c1
      have s0 := HT6.out.c0.1
      have s1 := HT6.out.c1.1
      go_wp2_with (fail)
      refine bodyPost_ret (ret_graph2 rfl _ _ _ rfl rfl ((HQR.out.s0 (.slice (some ⟨gq, 0, none⟩) n d)).s1 (.slice B2 m d2))) rfl ?_
      have hge2 := HGE.out
      have hgg := HGG.out
      subst hge2
      exact ⟨some ⟨gq, 0, none⟩, n, d, B2, m, d2, rfl, own_set2 (own_set2 (own_setN (j := 1) (y := turnN 9 (ndA ns i)) HQ1.out hip (by decide) rfl) (own_neG HQ1.out HR5.out (by decide))) (own_neG HQ1.out HR5.out (by decide)), own_set2 (own_set2 (HQ2.out.kept (HQ1.out.stored (i * 3 + 1) _).2 (.inr (own_ne2 HQ2.out HQ1.out (by decide)))) (own_neG HQ2.out HR5.out (by decide))) (own_neG HQ2.out HR5.out (by decide)), ((HB5.out.setCell (p := ⟨gq, i * 3 + 1, none⟩) (HQ1.out.lt gq rfl).1 _).setCell (p := ⟨g3, 0, none⟩) (by show _ ≤ g3; omega) _).setCell (p := ⟨g3, 1, none⟩) (by show _ ≤ g3; omega) _⟩

end Go.Proofs.Ytgmljlgoaifneaa
