/- The walk of the law on changes. Conditions: the arguments read as a graph and a change. -/
import Derived.Test.YtgmljlgoaifneaaGrd
import Derived.Test.YtgmljlgoaifneaaGsm
import Derived.Test.YtgmljlgoaifneaaGop
import Derived.Test.YtgmljlgoaifneaaGaw
namespace Go.Proofs.Ytgmljlgoaifneaa
open Go.RowKit Flt Go.Mem Go.Lib
set_option linter.unusedVariables false

attribute [local go_sem] run_store_float
set_option maxHeartbeats 6400000
set_option maxRecDepth 100000
theorem GraphApplies_walk (A A2 : Option Addr) (n c m c2 : Nat) (ns : List Nd) (ls : List Lk) (cg : Cg) (w : World) (hg : GN w w.heap.size A n ns) (hl : GL w w.heap.size A2 m ls) (hw : ∀ i, i < m → (lkA ls i).w < 18446744073709551616) (hn : n * 16 ≤ 140737488355328) (hm : m * 32 ≤ 140737488355328) (hok : cgOk cg) :
    Calls Try.prog 5 #[.agg #[.slice A n c, .slice A2 m c2], .agg #[.int .i64 cg.k, .int .i64 cg.a, .int .i64 cg.b, .float .f64 cg.w]] w fun e w' => e = .returned (.bool true) ∧ Below w.heap.size w w' := by
  obtain ⟨k, a, b, x⟩ := cg
  have hx64 : x < 18446744073709551616 := hok.1
  dsimp only
  have HN := Lib.hid hg
  have HL := Lib.hid hl
  have HW := Lib.hid hw
  obtain ⟨E, hE⟩ : ∃ E, E = AE ns ls k a b x := ⟨_, rfl⟩
  obtain ⟨NS, hNS⟩ : ∃ E, E = AN ns ls k a b x := ⟨_, rfl⟩
  obtain ⟨LS, hLS⟩ : ∃ E, E = AL ns ls k a b x := ⟨_, rfl⟩
  have HAP := Lib.hid (fun B d B2 d2 w' (h1 : GN w' w'.heap.size B n ns) (h2 : GL w' w'.heap.size B2 m ls) => (by have q := gapply_any B B2 n d m d2 k a b x ns ls w' h1 h2 hw hx64 hn hm; rw [← hE, ← hNS, ← hLS] at q; exact q : Calls Try.prog 17 #[.agg #[.slice B n d, .slice B2 m d2], .agg #[.int .i64 k, .int .i64 a, .int .i64 b, .float .f64 x]] w' (QPost E NS LS w')))
  have HRP := Lib.hid (fun B d B2 d2 w' (h1 : GN w' w'.heap.size B n ns) (h2 : GL w' w'.heap.size B2 m ls) => (by have q := rapply_any B B2 n d m d2 k a b x ns ls w' h1 h2 hw hx64 hn hm; rw [← hE, ← hNS, ← hLS] at q; exact q : Calls Try.prog 18 #[.agg #[.slice B n d, .slice B2 m d2], .agg #[.int .i64 k, .int .i64 a, .int .i64 b, .float .f64 x]] w' (QPost E NS LS w')))
  have HLEN := Lib.hid (show NS.length ≤ 1152921504606846976 ∧ LS.length ≤ 1152921504606846976 by
    rw [hNS, hLS]
    unfold AN AL
    by_cases h0 : AE ns ls k a b x = 0
    · have hc : chkG ns ls = 0 := by
        by_cases hc : chkG ns ls = 0
        · exact hc
        · unfold AE at h0; rw [if_neg hc] at h0; exact absurd h0 hc
      have g := ap_good (k := k) (a := a) (b := b) (x := x) (good_of hc)
      rw [if_pos h0, if_pos h0]
      exact ⟨Nat.le_trans g.n (by decide), Nat.le_trans g.l (by decide)⟩
    · rw [if_neg h0, if_neg h0]; exact ⟨by decide, by decide⟩)
  clear hE hNS hLS hg hl hw hx64 hok
  have hX1 := Go.heap_alloc_new w (.cells #[.slice A n c, .slice A2 m c2] 25)
  have hX2 := Go.heap_alloc_new (w.alloc (.cells #[.slice A n c, .slice A2 m c2] 25)) (.cells #[.int .i64 k, .int .i64 a, .int .i64 b, .float .f64 x] 38)
  have hB3 := ((Below.refl w.heap.size w).alloc (Nat.le_refl _) (.cells #[.slice A n c, .slice A2 m c2] 25)).alloc (by simp) (.cells #[.int .i64 k, .int .i64 a, .int .i64 b, .float .f64 x] 38)
  have hx1 : ((w.alloc (.cells #[.slice A n c, .slice A2 m c2] 25)).alloc (.cells #[.int .i64 k, .int .i64 a, .int .i64 b, .float .f64 x] 38)).heap[w.heap.size]? = _ := (Go.heap_alloc_old _ _ (by simp)).trans hX1
  have hx2 : ((w.alloc (.cells #[.slice A n c, .slice A2 m c2] 25)).alloc (.cells #[.int .i64 k, .int .i64 a, .int .i64 b, .float .f64 x] 38)).heap[w.heap.size + 1]? = some (.cells #[.int .i64 k, .int .i64 a, .int .i64 b, .float .f64 x] 38 (0, 0)) := by
    rw [show (w.alloc (.cells #[.slice A n c, .slice A2 m c2] 25)).heap.size = w.heap.size + 1 by simp] at hX2; exact hX2
  clear hX1 hX2
  go_enter Try.func5, Try.ntmps5
  go_upto_region 1 with fail
  generalize (w.alloc (.cells #[.slice A n c, .slice A2 m c2] 25)).alloc (.cells #[.int .i64 k, .int .i64 a, .int .i64 b, .float .f64 x] 38) = w1 at *
  generalize hg2 : w.heap.size + 1 = g2 at *
  generalize hg1 : w.heap.size = g1 at *
  have HY1 := Lib.hid (show GB w1 g1 (.slice A n c) (.slice A2 m c2) from hx1)
  have HY2 := Lib.hid hx2
  have HB1 := Lib.hid hB3
  have HGE := Lib.hid hg1
  clear hx1 hx2 hB3 hg2 hg1
  have GAT := Lib.hid (fun w' (h : Below g1 w w') => (by have := HGE.out; subst this; exact ⟨(HN.out.below h).more h.size, (HL.out.below h).more h.size⟩ : GN w' w'.heap.size A n ns ∧ GL w' w'.heap.size A2 m ls))
  have hsz1 : g1 ≤ w1.heap.size := by have := HY1.out.lt; omega
  have e0 := HY1.out.c0.1
  have e1 := HY1.out.c1.1
  have y0 : w1.cell? ⟨g2, 0, none⟩ = some (.int .i64 k) := (Go.cell_of_row w1 g2 0 _ _ _ HY2.out).trans rfl
  have y1 : w1.cell? ⟨g2, 1, none⟩ = some (.int .i64 a) := (Go.cell_of_row w1 g2 1 _ _ _ HY2.out).trans rfl
  have y2 : w1.cell? ⟨g2, 2, none⟩ = some (.int .i64 b) := (Go.cell_of_row w1 g2 2 _ _ _ HY2.out).trans rfl
  have y3 : w1.cell? ⟨g2, 3, none⟩ = some (.float .f64 x) := (Go.cell_of_row w1 g2 3 _ _ _ HY2.out).trans rfl
  have YY := Lib.hid (And.intro y0 (And.intro y1 (And.intro y2 y3)))
  have e0a := fun o => alloc_keep e0 o
  have e1a := fun o => alloc_keep e1 o
  have y0b := fun o => alloc_keep y0 o
  have y1b := fun o => alloc_keep y1 o
  have y2b := fun o => alloc_keep y2 o
  have y3b := fun o => alloc_keep y3 o
  have hD1 := (Below.refl w1.heap.size w1).drew
  have HD1 := Lib.hid hD1
  have HD2 := Lib.hid (fun o => hD1.alloc (Nat.le_refl w1.heap.size) o)
  have HD3 := Lib.hid (fun o => ((Below.refl w1.heap.size w1).alloc (Nat.le_refl w1.heap.size) o).drew)
  have GA2 := Lib.hid (fun w' (h : Below w1.heap.size w1 w') => GAT.out w' (HB1.out.trans (h.mono hsz1)))
  clear hD1
  go_cut [5, 6] from 5 (fun pv ev wx => ∃ t5 A' n' c' A2' m' c2', pv = .pointer (some ⟨t5, 0, none⟩) ∧ ev = .int .i64 E ∧ Hid (GB wx t5 (.slice A' n' c') (.slice A2' m' c2')) ∧ Hid (wx.ownsRow w1.heap.size 52 3 (.slice A' n' c') n' (NS.flatMap ndC)) ∧ Hid (wx.ownsRow w1.heap.size 54 4 (.slice A2' m' c2') m' (LS.flatMap lkC)) ∧ Hid (Below w1.heap.size w1 wx))
  case first =>
    go_region_law (first
      | (go_simp; go_at_call 11; refine (copy_any A A2 n c m c2 ns ls _ (by first | exact (GA2.out _ HD1.out).1 | exact (GA2.out _ (HD2.out _)).1 | exact (GA2.out _ (HD3.out _)).1) (by first | exact (GA2.out _ HD1.out).2 | exact (GA2.out _ (HD2.out _)).2 | exact (GA2.out _ (HD3.out _)).2) hn hm).mono ?_; rintro e w5 ⟨B, d, B2, d2, rfl, o1, o2, hb5⟩; have HB5 : Hid (Below w1.heap.size w1 w5) := (by first | exact Lib.hid (HD1.out.trans (hb5.mono HD1.out.size)) | exact Lib.hid ((HD2.out _).trans (hb5.mono (HD2.out _).size)) | exact Lib.hid ((HD3.out _).trans (hb5.mono (HD3.out _).size))); have HO1 := Lib.hid (GN.of_own o1); have HO2 := Lib.hid (GL.of_own o2); have v0 := keep_cellG YY.out.1 HB5.out; have v1 := keep_cellG YY.out.2.1 HB5.out; have v2 := keep_cellG YY.out.2.2.1 HB5.out; have v3 := keep_cellG YY.out.2.2.2 HB5.out; have v0a := fun o => alloc_keep v0 o; have v1a := fun o => alloc_keep v1 o; have v2a := fun o => alloc_keep v2 o; have v3a := fun o => alloc_keep v3 o; (first | (change Below ((w1.alloc (.cells #[.slice none 0 0, .slice none 0 0] 25)).drew).heap.size ((w1.alloc (.cells #[.slice none 0 0, .slice none 0 0] 25)).drew) w5 at hb5; have KZ := Lib.hid (zero_keepG hb5)) | skip); clear o1 o2 hb5)
      | (go_simp; go_at_call 17; refine (HAP.out B d B2 d2 _ (by first | exact HO1.out | exact (HO1.out.below ((Below.refl _ _).alloc (Nat.le_refl _) _)).more ((Below.refl _ _).alloc (Nat.le_refl _) _).size) (by first | exact HO2.out | exact (HO2.out.below ((Below.refl _ _).alloc (Nat.le_refl _) _)).more ((Below.refl _ _).alloc (Nat.le_refl _) _).size)).mono ?_; rintro e w6 ⟨A', n', c', A2', m', c2', rfl, p1, p2, hb6⟩; have HB6 : Hid (Below w1.heap.size w1 w6) := (by first | exact Lib.hid (HB5.out.trans (hb6.mono HB5.out.size)) | exact Lib.hid ((HB5.out.alloc HB5.out.size _).trans (hb6.mono (HB5.out.alloc HB5.out.size _).size))); have HP1 : Hid (w6.ownsRow w1.heap.size 52 3 (.slice A' n' c') n' (NS.flatMap ndC)) := (by first | exact Lib.hid (own_mono p1 HB5.out.size) | exact Lib.hid (own_mono p1 (HB5.out.alloc HB5.out.size _).size)); have HP2 : Hid (w6.ownsRow w1.heap.size 54 4 (.slice A2' m' c2') m' (LS.flatMap lkC)) := (by first | exact Lib.hid (own_mono p2 HB5.out.size) | exact Lib.hid (own_mono p2 (HB5.out.alloc HB5.out.size _).size)); (first | (have hz := Lib.hid (KZ.out.below hb6 (by first | exact KZ.out.lt | exact Nat.lt_of_lt_of_le KZ.out.lt ((Below.refl _ _).alloc (Nat.le_refl _) _).size)); have z0 := hz.out.c0; have z1 := hz.out.c1) | (have hz2 := Lib.hid (show GB w6 w5.heap.size (.slice none 0 0) (.slice none 0 0) from (hb6.block w5.heap.size (by simp)).trans (Go.heap_alloc_new w5 _)); have z0 := hz2.out.c0; have z1 := hz2.out.c1) | skip); clear p1 p2 hb6))
    all_goals
      go_wp2_with (fail)
      go_meet
      case rel => first
        | exact ⟨_, A', n', c', A2', m', c2', rfl, rfl, Lib.hid (Go.heap_alloc_new _ _), Lib.hid (World.ownsRow.alloc HP1.out _), Lib.hid (World.ownsRow.alloc HP2.out _), Lib.hid (HB6.out.alloc HB6.out.size _)⟩
        | exact ⟨_, A', n', c', A2', m', c2', rfl, rfl, Lib.hid ((hz.out.s0 _).s1 _), Lib.hid (own_set2 (own_set2 HP1.out (own_neG HP1.out hz.out (by decide))) (own_neG HP1.out hz.out (by decide))), Lib.hid (own_set2 (own_set2 HP2.out (own_neG HP2.out hz.out (by decide))) (own_neG HP2.out hz.out (by decide))), Lib.hid ((HB6.out.setCell (p := ⟨w1.heap.size, 0, none⟩) (Nat.le_refl _) _).setCell (p := ⟨w1.heap.size, 1, none⟩) (Nat.le_refl _) _)⟩
        | exact ⟨_, A', n', c', A2', m', c2', rfl, rfl, Lib.hid ((hz2.out.s0 _).s1 _), Lib.hid (own_set2 (own_set2 HP1.out (own_neG HP1.out hz2.out (by decide))) (own_neG HP1.out hz2.out (by decide))), Lib.hid (own_set2 (own_set2 HP2.out (own_neG HP2.out hz2.out (by decide))) (own_neG HP2.out hz2.out (by decide))), Lib.hid ((HB6.out.setCell (p := ⟨w5.heap.size, 0, none⟩) HB5.out.size _).setCell (p := ⟨w5.heap.size, 1, none⟩) HB5.out.size _)⟩
  case rest =>
    obtain ⟨t5, A', n', c', A2', m', c2', rfl, rfl, HT, HP1, HP2, HB6⟩ := hcut
    clear e0 e1 e0a e1a y0 y1 y2 y3 y0b y1b y2b y3b
    have HZ1 := Lib.hid (HY1.out.below HB6.out HY1.out.lt)
    have HZ2 := Lib.hid ((HB6.out.block g2 (lt_of_heap HY2.out)).trans HY2.out)
    have HBF := Lib.hid (HB1.out.trans (HB6.out.mono hsz1))
    have e0 := HZ1.out.c0.1
    have e1 := HZ1.out.c1.1
    have y0 : wc.cell? ⟨g2, 0, none⟩ = some (.int .i64 k) := (Go.cell_of_row wc g2 0 _ _ _ HZ2.out).trans rfl
    have y1 : wc.cell? ⟨g2, 1, none⟩ = some (.int .i64 a) := (Go.cell_of_row wc g2 1 _ _ _ HZ2.out).trans rfl
    have y2 : wc.cell? ⟨g2, 2, none⟩ = some (.int .i64 b) := (Go.cell_of_row wc g2 2 _ _ _ HZ2.out).trans rfl
    have y3 : wc.cell? ⟨g2, 3, none⟩ = some (.float .f64 x) := (Go.cell_of_row wc g2 3 _ _ _ HZ2.out).trans rfl
    go_wp2_with (fail)
    refine (HRP.out A c A2 c2 _ (GAT.out _ HBF.out).1 (GAT.out _ HBF.out).2).mono ?_
    rintro e w7 ⟨B, q, d, B2, r, d2, rfl, o1, o2, hb⟩
    have hszc : g1 ≤ wc.heap.size := by have := HZ1.out.lt; omega
    have HB7 := Lib.hid (HBF.out.trans (hb.mono hszc))
    have HT7 := Lib.hid (HT.out.below hb HT.out.lt)
    have HN7 := Lib.hid (((GN.of_own HP1.out).below hb).more hb.size)
    have HL7 := Lib.hid (((GL.of_own HP2.out).below hb).more hb.size)
    have HM7 := Lib.hid (GN.of_own o1)
    have HK7 := Lib.hid (GL.of_own o2)
    clear hb o1 o2 e0 e1 y0 y1 y2 y3
    have hba := (Below.refl w7.heap.size w7).alloc (Nat.le_refl _) (.cells #[.slice B q d, .slice B2 r d2] 25)
    have HU8 := Lib.hid (show GB (w7.alloc (.cells #[.slice B q d, .slice B2 r d2] 25)) w7.heap.size (.slice B q d) (.slice B2 r d2) from Go.heap_alloc_new w7 _)
    have HT8 := Lib.hid (HT7.out.below hba HT7.out.lt)
    have HN8 := Lib.hid ((HN7.out.below hba).more hba.size)
    have HL8 := Lib.hid ((HL7.out.below hba).more hba.size)
    have HM8 := Lib.hid ((HM7.out.below hba).more hba.size)
    have HK8 := Lib.hid ((HK7.out.below hba).more hba.size)
    have hsz7 : g1 ≤ w7.heap.size := by have := HB7.out.size; have := HGE.out; omega
    have HB8 := Lib.hid (HB7.out.trans (hba.mono hsz7))
    clear hba
    have r0 := HT8.out.c0.1
    have r1 := HT8.out.c1.1
    have u0 := HU8.out.c0.1
    have u1 := HU8.out.c1.1
    have hq : n' = q := by rw [← HN8.out.1, ← HM8.out.1]
    have hr : m' = r := by rw [← HL8.out.1, ← HK8.out.1]
    subst hq
    subst hr
    have hEE : (E == E) = true := by simp
    go_wp2_with (fail)
    refine (same_eq A' A2' B B2 n' c' m' c2' d d2 NS LS _ HN8.out HL8.out HM8.out HK8.out (by rw [← HN8.out.1]; exact HLEN.out.1) (by rw [← HL8.out.1]; exact HLEN.out.2)).mono ?_
    rintro e w9 ⟨rfl, hb⟩
    have hsz8 : g1 ≤ (w7.alloc (.cells #[.slice B n' d, .slice B2 m' d2] 25)).heap.size := Nat.le_trans hsz7 ((Below.refl _ _).alloc (Nat.le_refl _) _).size
    have HB9 := Lib.hid (HB8.out.trans (hb.mono hsz8))
    clear hb
    go_wp2_with (fail)
    refine (awake_any _).mono ?_
    rintro e w10 ⟨rfl, hb⟩
    go_wp2_with (fail)
    go_ret
    exact ⟨rfl, by have e := HGE.out; subst e; exact HB9.out.trans (hb.mono HB9.out.size)⟩

end Go.Proofs.Ytgmljlgoaifneaa
