/- What Apply answers; the walk of graph.Apply. Conditions: slices of less than 2^43 elements. -/
import Derived.Test.YtgmljlgoaifneaaGym
import Derived.Test.YtgmljlgoaifneaaGcl
import Derived.Test.YtgmljlgoaifneaaGlv
import Derived.Laws.ResultCell
import Derived.Deep.Cut
namespace Go.Proofs.Ytgmljlgoaifneaa
open Go.RowKit Flt Go.Mem Go.Lib
set_option linter.unusedVariables false

attribute [local go_sem] run_store_float
set_option maxHeartbeats 3200000
set_option maxRecDepth 100000
/-- why a graph may not be or a change may not be done; what is behind it, nothing if that is so -/
def AE (ns : List Nd) (ls : List Lk) (k a b : Int) (x : Nat) : Int := if chkG ns ls = 0 then apE ns ls k a b x else chkG ns ls
def AN (ns : List Nd) (ls : List Lk) (k a b : Int) (x : Nat) : List Nd := if AE ns ls k a b x = 0 then apN ns ls k a b x else []
def AL (ns : List Nd) (ls : List Lk) (k a b : Int) (x : Nat) : List Lk := if AE ns ls k a b x = 0 then apL ns ls k a b x else []
theorem zero_keepG {w1 w5 : World} (hb : Below ((w1.alloc (.cells #[.slice none 0 0, .slice none 0 0] 25)).drew).heap.size ((w1.alloc (.cells #[.slice none 0 0, .slice none 0 0] 25)).drew) w5) : GB w5 w1.heap.size (.slice none 0 0) (.slice none 0 0) :=
  (hb.block w1.heap.size (by show w1.heap.size < (w1.heap.push _).size; simp)).trans (Go.heap_alloc_new w1 _)
/-- what Apply leaves -/
def QPost (E : Int) (ns : List Nd) (ls : List Lk) (w : World) (e : Ending) (w' : World) : Prop :=
  ∃ B n' d B2 m' d2, e = .returned (.tuple #[.agg #[.slice B n' d, .slice B2 m' d2], .int .i64 E]) ∧ w'.ownsRow w.heap.size 52 3 (.slice B n' d) n' (ns.flatMap ndC) ∧ w'.ownsRow w.heap.size 54 4 (.slice B2 m' d2) m' (ls.flatMap lkC) ∧ Below w.heap.size w w'
set_option maxHeartbeats 6400000 in
theorem gapply_any (A A2 : Option Addr) (n c m c2 : Nat) (k a b : Int) (x : Nat) (ns : List Nd) (ls : List Lk) (w : World) (hg : GN w w.heap.size A n ns) (hl : GL w w.heap.size A2 m ls) (hw : ∀ i, i < m → (lkA ls i).w < 18446744073709551616) (hx64 : x < 18446744073709551616) (hn : n * 16 ≤ 140737488355328) (hm : m * 32 ≤ 140737488355328) :
    Calls Try.prog 17 #[.agg #[.slice A n c, .slice A2 m c2], .agg #[.int .i64 k, .int .i64 a, .int .i64 b, .float .f64 x]] w (QPost (AE ns ls k a b x) (AN ns ls k a b x) (AL ns ls k a b x) w) := by
  obtain ⟨E, hE⟩ : ∃ E, E = AE ns ls k a b x := ⟨_, rfl⟩
  obtain ⟨NS, hNS⟩ : ∃ E, E = AN ns ls k a b x := ⟨_, rfl⟩
  obtain ⟨LS, hLS⟩ : ∃ E, E = AL ns ls k a b x := ⟨_, rfl⟩
  rw [← hE, ← hNS, ← hLS]
  have HE := Lib.hid hE
  have HNS := Lib.hid hNS
  have HLS := Lib.hid hLS
  have HN := Lib.hid hg
  have HL := Lib.hid hl
  have HW := Lib.hid hw
  have HX := Lib.hid hx64
  clear hE hNS hLS hg hl hw hx64
  have hX1 := Go.heap_alloc_new w (.cells #[.slice A n c, .slice A2 m c2] 25)
  have hX2 := Go.heap_alloc_new (w.alloc (.cells #[.slice A n c, .slice A2 m c2] 25)) (.cells #[.int .i64 k, .int .i64 a, .int .i64 b, .float .f64 x] 38)
  have hX3 := Go.heap_alloc_new ((w.alloc (.cells #[.slice A n c, .slice A2 m c2] 25)).alloc (.cells #[.int .i64 k, .int .i64 a, .int .i64 b, .float .f64 x] 38)) (.cells #[.slice none 0 0, .slice none 0 0] 25)
  have hB3 := (((Below.refl w.heap.size w).alloc (Nat.le_refl _) (.cells #[.slice A n c, .slice A2 m c2] 25)).alloc (by simp) (.cells #[.int .i64 k, .int .i64 a, .int .i64 b, .float .f64 x] 38)).alloc (by simp; omega) (.cells #[.slice none 0 0, .slice none 0 0] 25)
  have hx1 : (((w.alloc (.cells #[.slice A n c, .slice A2 m c2] 25)).alloc (.cells #[.int .i64 k, .int .i64 a, .int .i64 b, .float .f64 x] 38)).alloc (.cells #[.slice none 0 0, .slice none 0 0] 25)).heap[w.heap.size]? = _ := (Go.heap_alloc_old _ _ (by simp; omega)).trans ((Go.heap_alloc_old _ _ (by simp)).trans hX1)
  have hx2 : (((w.alloc (.cells #[.slice A n c, .slice A2 m c2] 25)).alloc (.cells #[.int .i64 k, .int .i64 a, .int .i64 b, .float .f64 x] 38)).alloc (.cells #[.slice none 0 0, .slice none 0 0] 25)).heap[w.heap.size + 1]? = some (.cells #[.int .i64 k, .int .i64 a, .int .i64 b, .float .f64 x] 38 (0, 0)) := by
    rw [Go.heap_alloc_old _ _ (by simp)]
    rw [show (w.alloc (.cells #[.slice A n c, .slice A2 m c2] 25)).heap.size = w.heap.size + 1 by simp] at hX2; exact hX2
  have hx3 : (((w.alloc (.cells #[.slice A n c, .slice A2 m c2] 25)).alloc (.cells #[.int .i64 k, .int .i64 a, .int .i64 b, .float .f64 x] 38)).alloc (.cells #[.slice none 0 0, .slice none 0 0] 25)).heap[w.heap.size + 1 + 1]? = some (.cells #[.slice none 0 0, .slice none 0 0] 25 (0, 0)) := by
    rw [show ((w.alloc (.cells #[.slice A n c, .slice A2 m c2] 25)).alloc (.cells #[.int .i64 k, .int .i64 a, .int .i64 b, .float .f64 x] 38)).heap.size = w.heap.size + 1 + 1 by simp] at hX3; exact hX3
  clear hX1 hX2 hX3
  have HCH := Lib.hid (fun (ns0 : List Nd) (ls0 : List Lk) w' (h1 : GN w' w'.heap.size A n ns) (h2 : GL w' w'.heap.size A2 m ls) => check_any A A2 n c m c2 ns ls w' h1 h2 HW.out (by omega) (by omega))
  go_enter Try.func17, Try.ntmps17
  go_wp2_with (fail)
  generalize ((w.alloc (.cells #[.slice A n c, .slice A2 m c2] 25)).alloc (.cells #[.int .i64 k, .int .i64 a, .int .i64 b, .float .f64 x] 38)).alloc (.cells #[.slice none 0 0, .slice none 0 0] 25) = w0 at *
  generalize hg3 : w.heap.size + 1 + 1 = g3 at *
  generalize hg2 : w.heap.size + 1 = g2 at *
  generalize hg1 : w.heap.size = g1 at *
  have HX1 := Lib.hid (show GB w0 g1 (.slice A n c) (.slice A2 m c2) from hx1)
  have HX3 := Lib.hid (show GB w0 g3 (.slice none 0 0) (.slice none 0 0) from hx3)
  have HX2 := Lib.hid hx2
  have HB3 := Lib.hid hB3
  have HGG := Lib.hid (show g2 = g1 + 1 ∧ g3 = g1 + 2 from ⟨by omega, by omega⟩)
  have HGE := Lib.hid hg1
  clear hx1 hx2 hx3 hB3 hg2 hg3 hg1
  have GAT := Lib.hid (fun w' (h : Below g1 w w') => (by have := HGE.out; subst this; exact ⟨(HN.out.below h).more h.size, (HL.out.below h).more h.size⟩ : GN w' w'.heap.size A n ns ∧ GL w' w'.heap.size A2 m ls))
  refine (HCH.out ns ls _ (GAT.out _ HB3.out).1 (GAT.out _ HB3.out).2).mono ?_
  rintro e w1 ⟨rfl, hb⟩
  have hsz0 : g1 ≤ w0.heap.size := by have := HX1.out.lt; omega
  have HB1 := Lib.hid (HB3.out.trans (hb.mono hsz0))
  have HY1 := Lib.hid (HX1.out.below hb HX1.out.lt)
  have HY3 := Lib.hid (HX3.out.below hb HX3.out.lt)
  have HY2 := Lib.hid ((hb.block g2 (lt_of_heap HX2.out)).trans HX2.out)
  clear hb
  obtain ⟨z0, k0⟩ := HY3.out.c0
  obtain ⟨z1, k1⟩ := HY3.out.c1
  by_cases hc0 : chkG ns ls = 0
  · have HGD := Lib.hid (good_of hc0)
    have hE2 : E = apE ns ls k a b x := HE.out.trans (if_pos hc0)
    have HE2 := Lib.hid hE2
    rw [hc0]
    clear hE2 hc0
    have e0 := HY1.out.c0.1
    have e1 := HY1.out.c1.1
    have y0 : w1.cell? ⟨g2, 0, none⟩ = some (.int .i64 k) := (Go.cell_of_row w1 g2 0 _ _ _ HY2.out).trans rfl
    have y1 : w1.cell? ⟨g2, 1, none⟩ = some (.int .i64 a) := (Go.cell_of_row w1 g2 1 _ _ _ HY2.out).trans rfl
    have y2 : w1.cell? ⟨g2, 2, none⟩ = some (.int .i64 b) := (Go.cell_of_row w1 g2 2 _ _ _ HY2.out).trans rfl
    have y3 : w1.cell? ⟨g2, 3, none⟩ = some (.float .f64 x) := (Go.cell_of_row w1 g2 3 _ _ _ HY2.out).trans rfl
    have YY := Lib.hid (And.intro y0 (And.intro y1 (And.intro y2 y3)))
    have e0a := fun o => alloc_keep e0 o
    have e1a := fun o => alloc_keep e1 o
    have hD1 := (Below.refl w1.heap.size w1).drew
    have HD1 := Lib.hid hD1
    have HD2 := Lib.hid (fun o => hD1.alloc (Nat.le_refl w1.heap.size) o)
    have HD3 := Lib.hid (fun o => ((Below.refl w1.heap.size w1).alloc (Nat.le_refl w1.heap.size) o).drew)
    have GA2 := Lib.hid (fun w' (h : Below w1.heap.size w1 w') => GAT.out w' (HB1.out.trans (h.mono (Nat.le_of_lt HY1.out.lt))))
    clear hD1 z0 k0 z1 k1
    have y0b := fun o => alloc_keep y0 o
    have y1b := fun o => alloc_keep y1 o
    have y2b := fun o => alloc_keep y2 o
    have y3b := fun o => alloc_keep y3 o
    go_upto_region 4 with fail
    go_cut [7, 8] from 7 (fun pv ev wx => ∃ t7 A' n' c' A2' m' c2', pv = .pointer (some ⟨t7, 0, none⟩) ∧ ev = .int .i64 (apE ns ls k a b x) ∧ Hid (GB wx t7 (.slice A' n' c') (.slice A2' m' c2')) ∧ Hid (wx.ownsRow w1.heap.size 52 3 (.slice A' n' c') n' ((apN ns ls k a b x).flatMap ndC)) ∧ Hid (wx.ownsRow w1.heap.size 54 4 (.slice A2' m' c2') m' ((apL ns ls k a b x).flatMap lkC)) ∧ Hid (Below w1.heap.size w1 wx))
    case first =>
      go_region_law (first
        | (go_simp; go_at_call 35; refine (own_any A A2 n c m c2 ns ls _ (by first | exact (GA2.out _ HD1.out).1 | exact (GA2.out _ (HD2.out _)).1 | exact (GA2.out _ (HD3.out _)).1) (by first | exact (GA2.out _ HD1.out).2 | exact (GA2.out _ (HD2.out _)).2 | exact (GA2.out _ (HD3.out _)).2) hn hm).mono ?_; rintro e w5 ⟨B, d, B2, d2, rfl, o1, o2, hb5⟩; have HB5 : Hid (Below w1.heap.size w1 w5) := (by first | exact Lib.hid (HD1.out.trans (hb5.mono HD1.out.size)) | exact Lib.hid ((HD2.out _).trans (hb5.mono (HD2.out _).size)) | exact Lib.hid ((HD3.out _).trans (hb5.mono (HD3.out _).size))); have HO1 : Hid (w5.ownsRow w1.heap.size 52 3 (.slice B n d) n (ns.flatMap ndC)) := (by first | exact Lib.hid (own_mono o1 HD1.out.size) | exact Lib.hid (own_mono o1 (HD2.out _).size) | exact Lib.hid (own_mono o1 (HD3.out _).size)); have HO2 : Hid (w5.ownsRow w1.heap.size 54 4 (.slice B2 m d2) m (ls.flatMap lkC)) := (by first | exact Lib.hid (own_mono o2 HD1.out.size) | exact Lib.hid (own_mono o2 (HD2.out _).size) | exact Lib.hid (own_mono o2 (HD3.out _).size)); have v0 := keep_cellG YY.out.1 HB5.out; have v1 := keep_cellG YY.out.2.1 HB5.out; have v2 := keep_cellG YY.out.2.2.1 HB5.out; have v3 := keep_cellG YY.out.2.2.2 HB5.out; have v0a := fun o => alloc_keep v0 o; have v1a := fun o => alloc_keep v1 o; have v2a := fun o => alloc_keep v2 o; have v3a := fun o => alloc_keep v3 o; (first | (change Below ((w1.alloc (.cells #[.slice none 0 0, .slice none 0 0] 25)).drew).heap.size ((w1.alloc (.cells #[.slice none 0 0, .slice none 0 0] 25)).drew) w5 at hb5; have KZ := Lib.hid (zero_keepG hb5)) | skip); clear o1 o2 hb5)
        | (go_simp; go_at_call 33; refine (apply_any B B2 n d m d2 w1.heap.size k a b x ns ls _ (by first | exact HO1.out | exact World.ownsRow.alloc HO1.out _) (by first | exact HO2.out | exact World.ownsRow.alloc HO2.out _) (by first | exact HB5.out.size | exact (HB5.out.alloc HB5.out.size _).size) HGD.out HX.out).mono ?_; rintro e w6 ⟨A', n', c', A2', m', c2', rfl, p1, p2, hb6, hk6, _⟩; have HB6 : Hid (Below w1.heap.size w1 w6) := (by first | exact Lib.hid (HB5.out.trans hb6) | exact Lib.hid ((HB5.out.alloc HB5.out.size _).trans hb6)); have HP1 := Lib.hid p1; have HP2 := Lib.hid p2; (first | (have hz := Lib.hid (show GB w6 w1.heap.size (.slice none 0 0) (.slice none 0 0) from (hk6 w1.heap.size KZ.out.lt (fun e => own_neG HO1.out KZ.out (by decide) e.symm) (fun e => own_neG HO2.out KZ.out (by decide) e.symm)).trans KZ.out); have z0 := hz.out.c0; have z1 := hz.out.c1) | (have hz2 := Lib.hid (show GB w6 w5.heap.size (.slice none 0 0) (.slice none 0 0) from (hk6 w5.heap.size (by simp) (fun e => own_fresh HO1.out e.symm) (fun e => own_fresh HO2.out e.symm)).trans (Go.heap_alloc_new w5 _)); have z0 := hz2.out.c0; have z1 := hz2.out.c1) | skip); clear p1 p2 hb6 hk6))
      all_goals
        go_wp2_with (fail)
        go_meet
        case rel => first
          | exact ⟨_, A', n', c', A2', m', c2', rfl, rfl, Lib.hid (Go.heap_alloc_new _ _), Lib.hid (World.ownsRow.alloc HP1.out _), Lib.hid (World.ownsRow.alloc HP2.out _), Lib.hid (HB6.out.alloc HB6.out.size _)⟩
          | exact ⟨_, A', n', c', A2', m', c2', rfl, rfl, Lib.hid ((hz.out.s0 _).s1 _), Lib.hid (own_set2 (own_set2 HP1.out (own_neG HP1.out hz.out (by decide))) (own_neG HP1.out hz.out (by decide))), Lib.hid (own_set2 (own_set2 HP2.out (own_neG HP2.out hz.out (by decide))) (own_neG HP2.out hz.out (by decide))), Lib.hid ((HB6.out.setCell (p := ⟨w1.heap.size, 0, none⟩) (Nat.le_refl _) _).setCell (p := ⟨w1.heap.size, 1, none⟩) (Nat.le_refl _) _)⟩
          | exact ⟨_, A', n', c', A2', m', c2', rfl, rfl, Lib.hid ((hz2.out.s0 _).s1 _), Lib.hid (own_set2 (own_set2 HP1.out (own_neG HP1.out hz2.out (by decide))) (own_neG HP1.out hz2.out (by decide))), Lib.hid (own_set2 (own_set2 HP2.out (own_neG HP2.out hz2.out (by decide))) (own_neG HP2.out hz2.out (by decide))), Lib.hid ((HB6.out.setCell (p := ⟨w5.heap.size, 0, none⟩) HB5.out.size _).setCell (p := ⟨w5.heap.size, 1, none⟩) HB5.out.size _)⟩
    case rest =>
      obtain ⟨t7, A', n', c', A2', m', c2', rfl, rfl, HT, HP1, HP2, HB6⟩ := hcut
      rw [← HE2.out]
      have HZ := Lib.hid (HY3.out.below HB6.out HY3.out.lt)
      have HBF := Lib.hid (HB1.out.trans (HB6.out.mono (show g1 ≤ w1.heap.size by have := HY1.out.lt; omega)))
      have hge : g1 ≤ w1.heap.size := by have := HY1.out.lt; omega
      obtain ⟨z0, k0⟩ := HZ.out.c0
      obtain ⟨z1, k1⟩ := HZ.out.c1
      have r0 := HT.out.c0.1
      have r1 := HT.out.c1.1
      have hg3 : g1 ≤ g3 := by have := HGG.out; omega
      clear e0 e1 e0a e1a y0 y1 y2 y3 y0b y1b y2b y3b
      by_cases h0 : E = 0
      · have eqv : 0 = E := h0.symm
        subst eqv
        have eqv : apN ns ls k a b x = NS := Eq.symm (by rw [HNS.out]; unfold AN; rw [← HE.out, if_pos rfl])
        subst eqv
        have eqv : apL ns ls k a b x = LS := Eq.symm (by rw [HLS.out]; unfold AL; rw [← HE.out, if_pos rfl])
        subst eqv
        go_wp2_with (fail)
        refine bodyPost_ret (ret_graph2 rfl _ _ _ rfl rfl ((HZ.out.s0 (.slice A' n' c')).s1 (.slice A2' m' c2'))) rfl ?_
        have hge2 := HGE.out
        subst hge2
        exact ⟨A', n', c', A2', m', c2', rfl, own_mono (own_set2 (own_set2 HP1.out (own_neG HP1.out HZ.out (by decide))) (own_neG HP1.out HZ.out (by decide))) hge, own_mono (own_set2 (own_set2 HP2.out (own_neG HP2.out HZ.out (by decide))) (own_neG HP2.out HZ.out (by decide))) hge, (HBF.out.setCell (p := ⟨g3, 0, none⟩) hg3 _).setCell (p := ⟨g3, 1, none⟩) hg3 _⟩
      · have eqv : [] = NS := Eq.symm (by rw [HNS.out]; unfold AN; rw [← HE.out, if_neg h0])
        subst eqv
        have eqv : [] = LS := Eq.symm (by rw [HLS.out]; unfold AL; rw [← HE.out, if_neg h0])
        subst eqv
        go_wp2_with (fail)
        refine bodyPost_ret (ret_graph2 rfl _ _ _ rfl rfl ((HZ.out.s0 (.slice none 0 0)).s1 (.slice none 0 0))) rfl ?_
        have hge2 := HGE.out
        subst hge2
        exact ⟨none, 0, 0, none, 0, 0, rfl, World.ownsRow_nil _ _ _ _, World.ownsRow_nil _ _ _ _, (HBF.out.setCell (p := ⟨g3, 0, none⟩) hg3 _).setCell (p := ⟨g3, 1, none⟩) hg3 _⟩
  · have hE2 : E = chkG ns ls := HE.out.trans (if_neg hc0)
    have hE0 : ¬ E = 0 := by rw [hE2]; exact hc0
    rw [← hE2]
    have eqv : [] = NS := Eq.symm (by rw [HNS.out]; unfold AN; rw [← HE.out, if_neg hE0])
    subst eqv
    have eqv : [] = LS := Eq.symm (by rw [HLS.out]; unfold AL; rw [← HE.out, if_neg hE0])
    subst eqv
    clear hE2 hc0
    have hg3 : g1 ≤ g3 := by have := HGG.out; omega
    go_wp2_with (fail)
    refine bodyPost_ret (ret_graph2 rfl _ _ _ rfl rfl ((HY3.out.s0 (.slice none 0 0)).s1 (.slice none 0 0))) rfl ?_
    have hge2 := HGE.out
    subst hge2
    exact ⟨none, 0, 0, none, 0, 0, rfl, World.ownsRow_nil _ _ _ _, World.ownsRow_nil _ _ _ _, (HB1.out.setCell (p := ⟨g3, 0, none⟩) hg3 _).setCell (p := ⟨g3, 1, none⟩) hg3 _⟩

end Go.Proofs.Ytgmljlgoaifneaa
