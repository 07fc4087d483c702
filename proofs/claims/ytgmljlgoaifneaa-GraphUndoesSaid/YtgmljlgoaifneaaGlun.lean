/- The walk of the law on what is undone. Conditions: the arguments read as a graph and two changes. -/
import Derived.Test.YtgmljlgoaifneaaGua
import Derived.Test.YtgmljlgoaifneaaGsm
import Derived.Test.YtgmljlgoaifneaaGop
import Derived.Test.YtgmljlgoaifneaaGaw
import Derived.Test.YtgmljlgoaifneaaGst
import Derived.Deep.RegionHeld3
import Derived.Deep.Cut
namespace Go.Proofs.Ytgmljlgoaifneaa
open Go.RowKit Flt Go.Mem Go.Lib
set_option linter.unusedVariables false

attribute [local go_sem] run_store_float
set_option maxHeartbeats 6400000
set_option maxRecDepth 100000
section
variable (w : World) (o1 o2 o3 : Obj)
theorem three_1 : (((w.alloc o1).alloc o2).alloc o3).heap[w.heap.size]? = some o1 := (Go.heap_alloc_old _ _ (by first | (simp; done) | (simp; omega))).trans ((Go.heap_alloc_old _ _ (by simp)).trans (Go.heap_alloc_new w o1))
theorem three_2 : (((w.alloc o1).alloc o2).alloc o3).heap[w.heap.size + 1]? = some o2 := by
  have h := Go.heap_alloc_new (w.alloc o1) o2
  rw [show (w.alloc o1).heap.size = w.heap.size + 1 by simp] at h
  exact (Go.heap_alloc_old _ _ (by simp)).trans h
theorem three_3 : (((w.alloc o1).alloc o2).alloc o3).heap[w.heap.size + 1 + 1]? = some o3 := by
  have h := Go.heap_alloc_new ((w.alloc o1).alloc o2) o3
  rwa [show ((w.alloc o1).alloc o2).heap.size = w.heap.size + 1 + 1 by simp] at h
theorem three_B : Below w.heap.size w (((w.alloc o1).alloc o2).alloc o3) := (((Below.refl w.heap.size w).alloc (Nat.le_refl _) o1).alloc (by simp) o2).alloc (by first | (simp; done) | (simp; omega)) o3
end
theorem tab_cell (w : World) (t : TypeId) (kn : Nat) (h4 : 4 ≤ kn) (h9 : kn ≤ 9) : (w.alloc (.cells #[.int .i64 0, .int .i64 0, .int .i64 0, .int .i64 0, .int .i64 5, .int .i64 4, .int .i64 7, .int .i64 6, .int .i64 9, .int .i64 8] t)).cell? ⟨w.heap.size, kn, none⟩ = some (.int .i64 (bk (kn : Int))) := by
  have hk : kn = 4 ∨ kn = 5 ∨ kn = 6 ∨ kn = 7 ∨ kn = 8 ∨ kn = 9 := by omega
  rcases hk with rfl | rfl | rfl | rfl | rfl | rfl <;> exact (Go.cell_of_row _ w.heap.size _ _ _ _ (Go.heap_alloc_new w _)).trans rfl
theorem GraphUndoes_walk (A A2 : Option Addr) (n c m c2 : Nat) (ns : List Nd) (ls : List Lk) (cg1 cg2 : Cg) (w : World) (hg : GN w w.heap.size A n ns) (hl : GL w w.heap.size A2 m ls) (hw : ∀ i, i < m → (lkA ls i).w < 18446744073709551616) (hn : n * 16 ≤ 140737488355328) (hm : m * 32 ≤ 140737488355328) (hok1 : cgOk cg1) (hok2 : cgOk cg2) :
    Calls Try.prog 7 #[.agg #[.slice A n c, .slice A2 m c2], .agg #[.int .i64 cg1.k, .int .i64 cg1.a, .int .i64 cg1.b, .float .f64 cg1.w], .agg #[.int .i64 cg2.k, .int .i64 cg2.a, .int .i64 cg2.b, .float .f64 cg2.w]] w fun e w' => e = .returned (.bool true) ∧ Below w.heap.size w w' := by
  obtain ⟨k, a, b, x⟩ := cg1
  obtain ⟨k2, a2, b2, x2⟩ := cg2
  have hx64 : x < 18446744073709551616 := hok1.1
  have hx64' : x2 < 18446744073709551616 := hok2.1
  dsimp only
  have HN := Lib.hid hg
  have HL := Lib.hid hl
  have HWL := Lib.hid ((lk_allW hl.1).1 hw)
  have HX := Lib.hid (And.intro hx64 hx64')
  obtain ⟨E1, hE1⟩ : ∃ E, E = AE ns ls k a b x := ⟨_, rfl⟩
  obtain ⟨N1, hN1⟩ : ∃ E, E = AN ns ls k a b x := ⟨_, rfl⟩
  obtain ⟨L1, hL1⟩ : ∃ E, E = AL ns ls k a b x := ⟨_, rfl⟩
  have HE1 := Lib.hid (And.intro hE1 (And.intro hN1 hL1))
  have HAP := Lib.hid (fun w' (h1 : GN w' w'.heap.size A n ns) (h2 : GL w' w'.heap.size A2 m ls) => (by have q := gapply_any A A2 n c m c2 k a b x ns ls w' h1 h2 hw hx64 hn hm; rw [← hE1, ← hN1, ← hL1] at q; exact q : Calls Try.prog 17 #[.agg #[.slice A n c, .slice A2 m c2], .agg #[.int .i64 k, .int .i64 a, .int .i64 b, .float .f64 x]] w' (QPost E1 N1 L1 w')))
  have HBP := Lib.hid (fun kb w' (h1 : GN w' w'.heap.size A n ns) (h2 : GL w' w'.heap.size A2 m ls) => gapply_any A A2 n c m c2 kb a b x ns ls w' h1 h2 hw hx64 hn hm)
  obtain ⟨F1, hF1⟩ : ∃ E, E = BE ns ls k a b x k2 a2 b2 x2 := ⟨_, rfl⟩
  obtain ⟨F2, hF2⟩ : ∃ E, E = BE ns ls k2 a2 b2 x2 k a b x := ⟨_, rfl⟩
  obtain ⟨P1, hP1⟩ : ∃ E, E = BN ns ls k a b x k2 a2 b2 x2 := ⟨_, rfl⟩
  obtain ⟨P2, hP2⟩ : ∃ E, E = BN ns ls k2 a2 b2 x2 k a b x := ⟨_, rfl⟩
  obtain ⟨Q1, hQ1⟩ : ∃ E, E = BL ns ls k a b x k2 a2 b2 x2 := ⟨_, rfl⟩
  obtain ⟨Q2, hQ2⟩ : ∃ E, E = BL ns ls k2 a2 b2 x2 k a b x := ⟨_, rfl⟩
  have HL1 := Lib.hid (fun w' (h1 : GN w' w'.heap.size A n ns) (h2 : GL w' w'.heap.size A2 m ls) => (by have q := lapply_any A A2 n c m c2 k a b x k2 a2 b2 x2 ns ls w' h1 h2 ((lk_allW hl.1).1 hw) hx64 hx64' hn hm; rw [← hF1, ← hP1, ← hQ1] at q; exact q : Calls Try.prog 22 #[.agg #[.slice A n c, .slice A2 m c2], .agg #[.int .i64 k, .int .i64 a, .int .i64 b, .float .f64 x], .agg #[.int .i64 k2, .int .i64 a2, .int .i64 b2, .float .f64 x2]] w' (QPost F1 P1 Q1 w')))
  have HL2 := Lib.hid (fun w' (h1 : GN w' w'.heap.size A n ns) (h2 : GL w' w'.heap.size A2 m ls) => (by have q := lapply_any A A2 n c m c2 k2 a2 b2 x2 k a b x ns ls w' h1 h2 ((lk_allW hl.1).1 hw) hx64' hx64 hn hm; rw [← hF2, ← hP2, ← hQ2] at q; exact q : Calls Try.prog 22 #[.agg #[.slice A n c, .slice A2 m c2], .agg #[.int .i64 k2, .int .i64 a2, .int .i64 b2, .float .f64 x2], .agg #[.int .i64 k, .int .i64 a, .int .i64 b, .float .f64 x]] w' (QPost F2 P2 Q2 w')))
  have HEI := Lib.hid (fun (h3 : 3 ≤ k) (h32 : 3 ≤ k2) (hp : apart k a b k2 a2 b2) => (by rw [hF1, hF2, hP1, hP2, hQ1, hQ2]; exact B_either h3 h32 hp : (F1 = 0 ↔ F2 = 0) ∧ (F1 = 0 → P1 = P2 ∧ Q1 = Q2)))
  have HPL := Lib.hid (show P1.length ≤ 256 ∧ Q1.length ≤ 4096 by rw [hP1, hQ1]; exact B_len)
  clear hE1 hN1 hL1 hF1 hF2 hP1 hP2 hQ1 hQ2 hg hl hw hx64 hx64' hok1 hok2
  have f1 := three_1 w (.cells #[.slice A n c, .slice A2 m c2] 25) (.cells #[.int .i64 k, .int .i64 a, .int .i64 b, .float .f64 x] 38) (.cells #[.int .i64 k2, .int .i64 a2, .int .i64 b2, .float .f64 x2] 38)
  have f2 := three_2 w (.cells #[.slice A n c, .slice A2 m c2] 25) (.cells #[.int .i64 k, .int .i64 a, .int .i64 b, .float .f64 x] 38) (.cells #[.int .i64 k2, .int .i64 a2, .int .i64 b2, .float .f64 x2] 38)
  have f3 := three_3 w (.cells #[.slice A n c, .slice A2 m c2] 25) (.cells #[.int .i64 k, .int .i64 a, .int .i64 b, .float .f64 x] 38) (.cells #[.int .i64 k2, .int .i64 a2, .int .i64 b2, .float .f64 x2] 38)
  have fB := three_B w (.cells #[.slice A n c, .slice A2 m c2] 25) (.cells #[.int .i64 k, .int .i64 a, .int .i64 b, .float .f64 x] 38) (.cells #[.int .i64 k2, .int .i64 a2, .int .i64 b2, .float .f64 x2] 38)
  go_enter Try.func7, Try.ntmps7
  go_upto_region 1 with fail
  generalize ((w.alloc (.cells #[.slice A n c, .slice A2 m c2] 25)).alloc (.cells #[.int .i64 k, .int .i64 a, .int .i64 b, .float .f64 x] 38)).alloc (.cells #[.int .i64 k2, .int .i64 a2, .int .i64 b2, .float .f64 x2] 38) = w1 at *
  generalize hg3 : w.heap.size + 1 + 1 = g3 at *
  generalize hg2 : w.heap.size + 1 = g2 at *
  generalize hg1 : w.heap.size = g1 at *
  have HY1 := Lib.hid (show GB w1 g1 (.slice A n c) (.slice A2 m c2) from f1)
  have HY2 := Lib.hid f2
  have HY3 := Lib.hid f3
  have HB1 := Lib.hid fB
  have HGE := Lib.hid hg1
  clear f1 f2 f3 fB hg1 hg2 hg3
  have GAT := Lib.hid (fun w' (h : Below g1 w w') => (by have := HGE.out; subst this; exact ⟨(HN.out.below h).more h.size, (HL.out.below h).more h.size⟩ : GN w' w'.heap.size A n ns ∧ GL w' w'.heap.size A2 m ls))
  have hsz1 : g1 ≤ w1.heap.size := by have := HY1.out.lt; omega
  have e0 := HY1.out.c0.1
  have e1 := HY1.out.c1.1
  have y0 : w1.cell? ⟨g2, 0, none⟩ = some (.int .i64 k) := (Go.cell_of_row w1 g2 0 _ _ _ HY2.out).trans rfl
  have y1 : w1.cell? ⟨g2, 1, none⟩ = some (.int .i64 a) := (Go.cell_of_row w1 g2 1 _ _ _ HY2.out).trans rfl
  have y2 : w1.cell? ⟨g2, 2, none⟩ = some (.int .i64 b) := (Go.cell_of_row w1 g2 2 _ _ _ HY2.out).trans rfl
  have y3 : w1.cell? ⟨g2, 3, none⟩ = some (.float .f64 x) := (Go.cell_of_row w1 g2 3 _ _ _ HY2.out).trans rfl
  go_wp2_with (fail)
  refine (HAP.out _ (GAT.out _ HB1.out).1 (GAT.out _ HB1.out).2).mono ?_
  rintro e w2 ⟨B, p, d, B2, r, d2, rfl, p1, p2, hb⟩
  have HB2 := Lib.hid (HB1.out.trans (hb.mono hsz1))
  have HZ1 := Lib.hid (HY1.out.below hb HY1.out.lt)
  have HZ2 := Lib.hid ((hb.block g2 (lt_of_heap HY2.out)).trans HY2.out)
  have HZ3 := Lib.hid ((hb.block g3 (lt_of_heap HY3.out)).trans HY3.out)
  have hsz2 : g1 ≤ w2.heap.size := Nat.le_trans hsz1 hb.size
  have HP1 := Lib.hid (GN.of_own p1)
  have HP2 := Lib.hid (GL.of_own p2)
  clear hb p1 p2 e0 e1 y0 y1 y2 y3
  have hba := (Below.refl w2.heap.size w2).alloc (Nat.le_refl _) (.cells #[.slice B p d, .slice B2 r d2] 25)
  have HT := Lib.hid (show GB (w2.alloc (.cells #[.slice B p d, .slice B2 r d2] 25)) w2.heap.size (.slice B p d) (.slice B2 r d2) from Go.heap_alloc_new w2 _)
  have HA1 := Lib.hid (HZ1.out.alloc (.cells #[.slice B p d, .slice B2 r d2] 25))
  have HA2 := Lib.hid ((Go.heap_alloc_old w2 (.cells #[.slice B p d, .slice B2 r d2] 25) (lt_of_heap HZ2.out)).trans HZ2.out)
  have HA3 := Lib.hid ((Go.heap_alloc_old w2 (.cells #[.slice B p d, .slice B2 r d2] 25) (lt_of_heap HZ3.out)).trans HZ3.out)
  have HQ1 := Lib.hid ((HP1.out.below hba).more hba.size)
  have HQ2 := Lib.hid ((HP2.out.below hba).more hba.size)
  have HAB := Lib.hid (HB2.out.alloc hsz2 (.cells #[.slice B p d, .slice B2 r d2] 25))
  clear hba
  go_upto_region 2 with fail
  generalize w2.alloc (.cells #[.slice B p d, .slice B2 r d2] 25) = w3 at *
  generalize w2.heap.size = t7 at *
  have hsz3 : g1 ≤ w3.heap.size := by have := HA1.out.lt; omega
  have y0 : w3.cell? ⟨g2, 0, none⟩ = some (.int .i64 k) := (Go.cell_of_row w3 g2 0 _ _ _ HA2.out).trans rfl
  have y1 : w3.cell? ⟨g2, 1, none⟩ = some (.int .i64 a) := (Go.cell_of_row w3 g2 1 _ _ _ HA2.out).trans rfl
  have y2 : w3.cell? ⟨g2, 2, none⟩ = some (.int .i64 b) := (Go.cell_of_row w3 g2 2 _ _ _ HA2.out).trans rfl
  have y3 : w3.cell? ⟨g2, 3, none⟩ = some (.float .f64 x) := (Go.cell_of_row w3 g2 3 _ _ _ HA2.out).trans rfl
  have HC3 := Lib.hid (Below.refl w3.heap.size w3)
  have HC3d := Lib.hid ((Below.refl w3.heap.size w3).drew)
  have BX1 := Lib.hid (fun w' (h : Below w3.heap.size w3 w') => HA1.out.below h HA1.out.lt)
  have BX7 := Lib.hid (fun w' (h : Below w3.heap.size w3 w') => HT.out.below h HT.out.lt)
  have BX2 := Lib.hid (fun w' (h : Below w3.heap.size w3 w') => (h.block g2 (lt_of_heap HA2.out)).trans HA2.out)
  have BX3 := Lib.hid (fun w' (h : Below w3.heap.size w3 w') => (h.block g3 (lt_of_heap HA3.out)).trans HA3.out)
  have BXN := Lib.hid (fun w' (h : Below w3.heap.size w3 w') => And.intro ((HQ1.out.below h).more h.size) ((HQ2.out.below h).more h.size))
  have BXW := Lib.hid (fun w' (h : Below w3.heap.size w3 w') => HAB.out.trans (h.mono hsz3))
  have BXG := Lib.hid (fun w' (h : Below w3.heap.size w3 w') => GAT.out w' (HAB.out.trans (h.mono hsz3)))
  go_cut [8, 32] from 20 (fun ev bv wx => ∃ t : Bool, ev = .int .i64 E1 ∧ bv = .bool t ∧ Hid (t = true → E1 = 0 ∧ 4 ≤ k) ∧ Hid (Below w3.heap.size w3 wx))
  case first =>
    by_cases hE0 : E1 = 0
    · have HE0 := Lib.hid hE0
      have hgd : (E1 == 0) = true := by rw [beq_iff_eq]; exact hE0
      by_cases h4 : 4 ≤ k
      · have hgd4 : decide (k ≥ 4) = true := by simp; omega
        have H4 := Lib.hid h4
        clear h4 hE0
        go_wp2_with (fail)
        go_meet
        case rel => first | exact ⟨true, rfl, rfl, Lib.hid (fun _ => ⟨HE0.out, H4.out⟩), HC3⟩ | exact ⟨true, rfl, rfl, Lib.hid (fun _ => ⟨HE0.out, H4.out⟩), HC3d⟩
      · have hgd4 : decide (k ≥ 4) = false := by simp; omega
        clear h4 hE0
        go_wp2_with (fail)
        go_meet
        case rel => first | exact ⟨false, rfl, rfl, Lib.hid (fun h => by cases h), HC3⟩ | exact ⟨false, rfl, rfl, Lib.hid (fun h => by cases h), HC3d⟩
    · have hgd : (E1 == 0) = false := by rw [beq_eq_false_iff_ne]; exact hE0
      clear hE0
      go_wp2_with (fail)
      go_meet
      case rel => first | exact ⟨false, rfl, rfl, Lib.hid (fun h => by cases h), HC3⟩ | exact ⟨false, rfl, rfl, Lib.hid (fun h => by cases h), HC3d⟩
  case rest =>
    obtain ⟨t, rfl, rfl, HTT, HBW⟩ := hcut
    obtain ⟨wb, rfl⟩ : ∃ wb : World, wb = wc := ⟨_, rfl⟩
    clear y0 y1 y2 y3
    go_upto_if 32 with (fail)
    go_cut [] from 20 (fun wx => Hid (Below w3.heap.size w3 wx))
    case first =>
      cases t
      · go_wp2_with (fail)
        go_meet
        case rel => exact HBW
      · have h0 := (HTT.out rfl).1
        have h4 := (HTT.out rfl).2
        obtain ⟨hgd0, hap0, hN1, hL1⟩ := AE_zero (ns := ns) (ls := ls) (k := k) (a := a) (b := b) (x := x) (by rw [← HE1.out.1]; exact h0)
        have h9 : k ≤ 9 := by
          unfold apE at hap0
          split at hap0
          · omega
          · next hb =>
            have hb : bareB k b x = true := by simpa using hb
            unfold bareB at hb
            simp at hb
            omega
        obtain ⟨u1, u2, u3⟩ := undone (x := x) hgd0 hap0 h4 h9
        have hAB : AE ns ls (bk k) a b x = 0 := (if_pos hgd0.chk).trans u1
        have hgx := ap_good (k := k) (a := a) (b := b) (x := x) hgd0
        have hbk3 : 3 ≤ bk k := by unfold bk; (repeat' split) <;> decide
        have hAC : AE N1 L1 (bk k) a b x = 0 := by
          rw [HE1.out.2.1, HE1.out.2.2, hN1, hL1, AE_after hgd0 (by omega) hbk3]; exact hAB
        have hq1 := AE_zero hAB
        have hq2 := AE_zero hAC
        have hN2 : AN N1 L1 (bk k) a b x = AN ns ls (bk k) a b x := by
          rw [hq2.2.2.1, hq1.2.2.1, HE1.out.2.1, HE1.out.2.2, hN1, hL1]; exact u2
        have hL2 : AL N1 L1 (bk k) a b x = AL ns ls (bk k) a b x := by
          rw [hq2.2.2.2, hq1.2.2.2, HE1.out.2.1, HE1.out.2.2, hN1, hL1]; exact u3
        have hlenA := A_len (ns := ns) (ls := ls) (k := bk k) (a := a) (b := b) (x := x)
        have hwL1 : ∀ y ∈ L1, y.w < 18446744073709551616 := by
          rw [HE1.out.2.2]; exact A_w HX.out.1 HWL.out
        obtain ⟨NB, hNB⟩ : ∃ E, E = AN ns ls (bk k) a b x := ⟨_, rfl⟩
        obtain ⟨LB, hLB⟩ : ∃ E, E = AL ns ls (bk k) a b x := ⟨_, rfl⟩
        obtain ⟨kb, hkb⟩ : ∃ E, E = bk k := ⟨_, rfl⟩
        have HC1 := Lib.hid (fun w' (h1 : GN w' w'.heap.size A n ns) (h2 : GL w' w'.heap.size A2 m ls) => (by have q := HBP.out (bk k) w' h1 h2; rw [hAB, ← hNB, ← hLB, ← hkb] at q; exact q : Calls Try.prog 17 #[.agg #[.slice A n c, .slice A2 m c2], .agg #[.int .i64 kb, .int .i64 a, .int .i64 b, .float .f64 x]] w' (QPost 0 NB LB w')))
        have HPN := HQ1.out.1
        have HPL' := HQ2.out.1
        have hNl : p ≤ 256 ∧ r ≤ 4096 := by
          rw [← HPN, ← HPL', HE1.out.2.1, HE1.out.2.2]; exact A_len
        have HC2 := Lib.hid (fun w' (h1 : GN w' w'.heap.size B p N1) (h2 : GL w' w'.heap.size B2 r L1) => (by have q := gapply_any B B2 p d r d2 (bk k) a b x N1 L1 w' h1 h2 ((lk_allW HPL').2 hwL1) HX.out.1 (by omega) (by omega); rw [hAC, hN2, hL2, ← hNB, ← hLB, ← hkb] at q; exact q : Calls Try.prog 17 #[.agg #[.slice B p d, .slice B2 r d2], .agg #[.int .i64 kb, .int .i64 a, .int .i64 b, .float .f64 x]] w' (QPost 0 NB LB w')))
        have HLB := Lib.hid (show NB.length ≤ 1152921504606846976 ∧ LB.length ≤ 1152921504606846976 by rw [hNB, hLB]; exact ⟨Nat.le_trans hlenA.1 (by decide), Nat.le_trans hlenA.2 (by decide)⟩)
        obtain ⟨kn, rfl⟩ : ∃ kn : Nat, k = (kn : Int) := ⟨k.toNat, by omega⟩
        have hkn4 : 4 ≤ kn := by omega
        have hkn9 : kn ≤ 9 := by omega
        have HKB := Lib.hid hkb
        have HKN := Lib.hid (And.intro hkn4 hkn9)
        clear h0 h4 h9 hgd0 hap0 hN1 hL1 u1 u2 u3 hAB hgx hbk3 hAC hq1 hq2 hN2 hL2 hlenA hwL1 hNB hLB hkb HPN HPL' hNl hkn4 hkn9
        have y0 : wb.cell? ⟨g2, 0, none⟩ = some (.int .i64 (kn : Int)) := (Go.cell_of_row wb g2 0 _ _ _ (BX2.out _ HBW.out)).trans rfl
        have y1 : wb.cell? ⟨g2, 1, none⟩ = some (.int .i64 a) := (Go.cell_of_row wb g2 1 _ _ _ (BX2.out _ HBW.out)).trans rfl
        have y2 : wb.cell? ⟨g2, 2, none⟩ = some (.int .i64 b) := (Go.cell_of_row wb g2 2 _ _ _ (BX2.out _ HBW.out)).trans rfl
        have y3 : wb.cell? ⟨g2, 3, none⟩ = some (.float .f64 x) := (Go.cell_of_row wb g2 3 _ _ _ (BX2.out _ HBW.out)).trans rfl
        go_upto_region 4 with fail
        have hszb : w3.heap.size ≤ wb.heap.size := HBW.out.size
        have HN9 := Lib.hid (Go.heap_alloc_new wb (.cells #[.int .i64 (kn : Int), .int .i64 a, .int .i64 b, .float .f64 x] 38))
        have HB9 := Lib.hid (HBW.out.alloc hszb (.cells #[.int .i64 (kn : Int), .int .i64 a, .int .i64 b, .float .f64 x] 38))
        clear y0 y1 y2 y3
        generalize wb.alloc (.cells #[.int .i64 (kn : Int), .int .i64 a, .int .i64 b, .float .f64 x] 38) = w4 at *
        generalize ht9 : wb.heap.size = t9 at *
        have hsz4 : w3.heap.size ≤ w4.heap.size := HB9.out.size
        have y0 : w4.cell? ⟨g2, 0, none⟩ = some (.int .i64 (kn : Int)) := (Go.cell_of_row w4 g2 0 _ _ _ (BX2.out _ HB9.out)).trans rfl
        have y0a := fun o => alloc_keep y0 o
        have htab := fun t => tab_cell w4 t kn HKN.out.1 HKN.out.2
        have hz := fun o => (Go.heap_alloc_old w4 o (lt_of_heap HN9.out)).trans HN9.out
        have hzc := fun o => (Go.cell_of_row (w4.alloc o) t9 0 _ _ _ (hz o)).trans rfl
        have hzf := fun o => Go.frozen_of_row (w4.alloc o) t9 0 _ _ (hz o)
        have hk10 : (kn : Int) < 10 := by have := HKN.out.2; omega
        have HSET := Lib.hid (fun o u => (Go.heap_setCell_same (w4.alloc o) t9 0 _ _ _ (hz o) : ((w4.alloc o).setCell ⟨t9, 0, none⟩ u).heap[t9]? = _))
        have HSB := Lib.hid (fun o u => (HB9.out.alloc hsz4 o).setCell (p := ⟨t9, 0, none⟩) hszb u)
        clear hz
        go_upto_region 5 with fail
        have HK9 := Lib.hid (HSET.out (.cells #[.int .i64 0, .int .i64 0, .int .i64 0, .int .i64 0, .int .i64 5, .int .i64 4, .int .i64 7, .int .i64 6, .int .i64 9, .int .i64 8] 3) (.int .i64 (bk (kn : Int))))
        have HB5 := Lib.hid (HSB.out (.cells #[.int .i64 0, .int .i64 0, .int .i64 0, .int .i64 0, .int .i64 5, .int .i64 4, .int .i64 7, .int .i64 6, .int .i64 9, .int .i64 8] 3) (.int .i64 (bk (kn : Int))))
        clear y0 y0a htab hzc hzf
        generalize (w4.alloc (.cells #[.int .i64 0, .int .i64 0, .int .i64 0, .int .i64 0, .int .i64 5, .int .i64 4, .int .i64 7, .int .i64 6, .int .i64 9, .int .i64 8] 3)).setCell ⟨t9, 0, none⟩ (.int .i64 (bk (kn : Int))) = w5 at *
        have hkk : bk (kn : Int) = kb := by rw [HKB.out]
        have z0 : w5.cell? ⟨t9, 0, none⟩ = some (.int .i64 kb) := (Go.cell_of_row w5 t9 0 _ _ _ HK9.out).trans (by rw [← hkk]; rfl)
        have z1 : w5.cell? ⟨t9, 1, none⟩ = some (.int .i64 a) := (Go.cell_of_row w5 t9 1 _ _ _ HK9.out).trans rfl
        have z2 : w5.cell? ⟨t9, 2, none⟩ = some (.int .i64 b) := (Go.cell_of_row w5 t9 2 _ _ _ HK9.out).trans rfl
        have z3 : w5.cell? ⟨t9, 3, none⟩ = some (.float .f64 x) := (Go.cell_of_row w5 t9 3 _ _ _ HK9.out).trans rfl
        have e0 := (BX1.out _ HB5.out).c0.1
        have e1 := (BX1.out _ HB5.out).c1.1
        have hsz5 : w3.heap.size ≤ w5.heap.size := HB5.out.size
        clear hkk
        go_wp2_with (fail)
        refine (HC1.out _ (BXG.out _ HB5.out).1 (BXG.out _ HB5.out).2).mono ?_
        rintro e w6 ⟨U, q, ca, V, s, cb, rfl, p3, p4, hb⟩
        have HB6 := Lib.hid (HB5.out.trans (hb.mono hsz5))
        have HK96 := Lib.hid ((hb.block t9 (lt_of_heap HK9.out)).trans HK9.out)
        have HM1 := Lib.hid (GN.of_own p3)
        have HM2 := Lib.hid (GL.of_own p4)
        have hsz6 : w3.heap.size ≤ w6.heap.size := HB6.out.size
        have hba := (Below.refl w6.heap.size w6).alloc (Nat.le_refl _) (.cells #[.slice U q ca, .slice V s cb] 25)
        have H10 := Lib.hid (show GB (w6.alloc (.cells #[.slice U q ca, .slice V s cb] 25)) w6.heap.size (.slice U q ca) (.slice V s cb) from Go.heap_alloc_new w6 _)
        have HB7 := Lib.hid (HB6.out.trans (hba.mono hsz6))
        have HK97 := Lib.hid ((hba.block t9 (lt_of_heap HK96.out)).trans HK96.out)
        have HM17 := Lib.hid ((HM1.out.below hba).more hba.size)
        have HM27 := Lib.hid ((HM2.out.below hba).more hba.size)
        clear hb p3 p4 hba e0 e1 z0 z1 z2 z3
        go_upto_region 6 with fail
        generalize w6.alloc (.cells #[.slice U q ca, .slice V s cb] 25) = w7 at *
        generalize w6.heap.size = t10 at *
        have hsz7 : w3.heap.size ≤ w7.heap.size := HB7.out.size
        have hkk : bk (kn : Int) = kb := by rw [HKB.out]
        have z0 : w7.cell? ⟨t9, 0, none⟩ = some (.int .i64 kb) := (Go.cell_of_row w7 t9 0 _ _ _ HK97.out).trans (by rw [← hkk]; rfl)
        have z1 : w7.cell? ⟨t9, 1, none⟩ = some (.int .i64 a) := (Go.cell_of_row w7 t9 1 _ _ _ HK97.out).trans rfl
        have z2 : w7.cell? ⟨t9, 2, none⟩ = some (.int .i64 b) := (Go.cell_of_row w7 t9 2 _ _ _ HK97.out).trans rfl
        have z3 : w7.cell? ⟨t9, 3, none⟩ = some (.float .f64 x) := (Go.cell_of_row w7 t9 3 _ _ _ HK97.out).trans rfl
        have e0 := (BX7.out _ HB7.out).c0.1
        have e1 := (BX7.out _ HB7.out).c1.1
        clear hkk
        go_wp2_with (fail)
        refine (HC2.out _ (BXN.out _ HB7.out).1 (BXN.out _ HB7.out).2).mono ?_
        rintro e w8 ⟨U2, q2, ca2, V2, s2, cb2, rfl, p5, p6, hb⟩
        have HB8 := Lib.hid (HB7.out.trans (hb.mono hsz7))
        have H108 := Lib.hid (H10.out.below hb H10.out.lt)
        have HM18 := Lib.hid ((HM17.out.below hb).more hb.size)
        have HM28 := Lib.hid ((HM27.out.below hb).more hb.size)
        have HO1 := Lib.hid (GN.of_own p5)
        have HO2 := Lib.hid (GL.of_own p6)
        have hsz8 : w3.heap.size ≤ w8.heap.size := HB8.out.size
        have hba := (Below.refl w8.heap.size w8).alloc (Nat.le_refl _) (.cells #[.slice U2 q2 ca2, .slice V2 s2 cb2] 25)
        have H12 := Lib.hid (show GB (w8.alloc (.cells #[.slice U2 q2 ca2, .slice V2 s2 cb2] 25)) w8.heap.size (.slice U2 q2 ca2) (.slice V2 s2 cb2) from Go.heap_alloc_new w8 _)
        have HB9' := Lib.hid (HB8.out.trans (hba.mono hsz8))
        have H109 := Lib.hid (H108.out.below hba H108.out.lt)
        have HM19 := Lib.hid ((HM18.out.below hba).more hba.size)
        have HM29 := Lib.hid ((HM28.out.below hba).more hba.size)
        have HO19 := Lib.hid ((HO1.out.below hba).more hba.size)
        have HO29 := Lib.hid ((HO2.out.below hba).more hba.size)
        clear hb p5 p6 hba e0 e1 z0 z1 z2 z3
        go_upto_region 7 with fail
        generalize w8.alloc (.cells #[.slice U2 q2 ca2, .slice V2 s2 cb2] 25) = w9 at *
        generalize w8.heap.size = t12 at *
        have hsz9 : w3.heap.size ≤ w9.heap.size := HB9'.out.size
        have hq : q2 = q := by rw [← HO19.out.1, ← HM19.out.1]
        have hs : s2 = s := by rw [← HO29.out.1, ← HM29.out.1]
        subst hq
        subst hs
        have r0 := H109.out.c0.1
        have r1 := H109.out.c1.1
        have u0 := H12.out.c0.1
        have u1 := H12.out.c1.1
        go_wp2_with (first | (go_at_call 16; refine (same_eq U2 V2 U V q2 _ s2 _ _ _ NB LB _ HO19.out HO29.out HM19.out HM29.out (by rw [← HO19.out.1]; exact HLB.out.1) (by rw [← HO29.out.1]; exact HLB.out.2)).mono ?_; rintro e w10 ⟨rfl, hb⟩; have HBX := Lib.hid (HB9'.out.trans (hb.mono hsz9)); clear hb))
        go_meet
        case rel => exact HBX
    case rest =>
      obtain ⟨wt, rfl⟩ : ∃ wt : World, wt = wc := ⟨_, rfl⟩
      have HWT := Lib.hid hcut.out
      clear hcut HTT HBW
      have HWF := Lib.hid (BXW.out _ HWT.out)
      have y0 : wt.cell? ⟨g2, 0, none⟩ = some (.int .i64 k) := (Go.cell_of_row wt g2 0 _ _ _ (BX2.out _ HWT.out)).trans rfl
      have y1 : wt.cell? ⟨g2, 1, none⟩ = some (.int .i64 a) := (Go.cell_of_row wt g2 1 _ _ _ (BX2.out _ HWT.out)).trans rfl
      have y2 : wt.cell? ⟨g2, 2, none⟩ = some (.int .i64 b) := (Go.cell_of_row wt g2 2 _ _ _ (BX2.out _ HWT.out)).trans rfl
      have y3 : wt.cell? ⟨g2, 3, none⟩ = some (.float .f64 x) := (Go.cell_of_row wt g2 3 _ _ _ (BX2.out _ HWT.out)).trans rfl
      have v0 : wt.cell? ⟨g3, 0, none⟩ = some (.int .i64 k2) := (Go.cell_of_row wt g3 0 _ _ _ (BX3.out _ HWT.out)).trans rfl
      have v1 : wt.cell? ⟨g3, 1, none⟩ = some (.int .i64 a2) := (Go.cell_of_row wt g3 1 _ _ _ (BX3.out _ HWT.out)).trans rfl
      have v2 : wt.cell? ⟨g3, 2, none⟩ = some (.int .i64 b2) := (Go.cell_of_row wt g3 2 _ _ _ (BX3.out _ HWT.out)).trans rfl
      have v3 : wt.cell? ⟨g3, 3, none⟩ = some (.float .f64 x2) := (Go.cell_of_row wt g3 3 _ _ _ (BX3.out _ HWT.out)).trans rfl
      by_cases h3 : k < 3
      · have h3' : decide (k < 3) = true := by simp; exact h3
        go_wp2_with (fail)
        refine (awake_any _).mono ?_
        rintro e w9' ⟨rfl, hb⟩
        go_wp2_with (fail)
        go_ret
        exact ⟨rfl, by have e := HGE.out; subst e; exact HWF.out.trans (hb.mono HWF.out.size)⟩
      by_cases h32 : k2 < 3
      · have h32' : decide (k2 < 3) = true := by simp; exact h32
        have h3' : decide (k < 3) = false := by simp; omega
        go_wp2_with (fail)
        refine (awake_any _).mono ?_
        rintro e w9' ⟨rfl, hb⟩
        go_wp2_with (fail)
        go_ret
        exact ⟨rfl, by have e := HGE.out; subst e; exact HWF.out.trans (hb.mono HWF.out.size)⟩
      have h3' : decide (k < 3) = false := by simp; omega
      have h32' : decide (k2 < 3) = false := by simp; omega
      have HS8 := Lib.hid (show (fun w' => w'.cell? ⟨g2, 0, none⟩ = some (.int .i64 k) ∧ w'.cell? ⟨g2, 1, none⟩ = some (.int .i64 a) ∧ w'.cell? ⟨g2, 2, none⟩ = some (.int .i64 b) ∧ w'.cell? ⟨g2, 3, none⟩ = some (.float .f64 x) ∧ w'.cell? ⟨g3, 0, none⟩ = some (.int .i64 k2) ∧ w'.cell? ⟨g3, 1, none⟩ = some (.int .i64 a2) ∧ w'.cell? ⟨g3, 2, none⟩ = some (.int .i64 b2) ∧ w'.cell? ⟨g3, 3, none⟩ = some (.float .f64 x2) ∧ Below wt.heap.size wt w') wt.drew from ⟨y0, y1, y2, y3, v0, v1, v2, v3, (Below.refl wt.heap.size wt).drew⟩)
      have hk3 : 3 ≤ k := by omega
      have hk32 : 3 ≤ k2 := by omega
      go_upto_region 12 with fail
      clear h3' h32' h3 h32
      go_cut [15] from 20 (fun pv wx => ∃ ap : Bool, pv = .bool ap ∧ Hid (ap = true → apart k a b k2 a2 b2) ∧ Hid (Below wt.heap.size wt wx))
      case first =>
        have HK33 := Lib.hid (And.intro hk3 hk32)
        clear hk3 hk32 y0 y1 y2 y3 v0 v1 v2 v3
        have GG0 := HS8.out
        have hk3 := HK33.out.1
        have hk32 := HK33.out.2
        clear GG0
        have GG0 := True.intro
        by_cases la : k ≤ 5
        · by_cases lb : k2 ≤ 5
          · by_cases c1 : a = a2
            · by_cases c2 : b = b2
              · have LKA := Lib.hid (fun w' => (by have q := linkd_any k a b x w'; rw [show decide (k ≤ 5) = true by simp; omega] at q; exact q : Calls Try.prog 21 #[.agg #[.int .i64 k, .int .i64 a, .int .i64 b, .float .f64 x]] w' fun e w2 => e = .returned (.bool true) ∧ Below w'.heap.size w' w2))
                have LKB := Lib.hid (fun w' => (by have q := linkd_any k2 a2 b2 x2 w'; rw [show decide (k2 ≤ 5) = true by simp; omega] at q; exact q : Calls Try.prog 21 #[.agg #[.int .i64 k2, .int .i64 a2, .int .i64 b2, .float .f64 x2]] w' fun e w2 => e = .returned (.bool true) ∧ Below w'.heap.size w' w2))
                have c1' : (a == a2) = true := by rw [beq_iff_eq]; exact c1
                have c1'' : (a != a2) = false := by simp; exact c1
                have c2' : (b == b2) = true := by rw [beq_iff_eq]; exact c2
                clear la lb c1 c2 GG0
                clear HAP HBP HL1 HL2 HN HL HWL HX HE1 HEI HPL HY1 HY2 HY3 HB1 GAT HB2 HZ1 HZ2 HZ3 HP1 HP2 HT HA1 HA2 HA3 HQ1 HQ2 HAB HC3 HC3d BX1 BX7 BX2 BX3 BXN BXW BXG HK33
                as_aux_lemma =>
                  refine wp_region_seq (by kernel_rfl) (by as_aux_lemma => kernel_rfl) (fun w' => w'.cell? ⟨g2, 0, none⟩ = some (.int .i64 k) ∧ w'.cell? ⟨g2, 1, none⟩ = some (.int .i64 a) ∧ w'.cell? ⟨g2, 2, none⟩ = some (.int .i64 b) ∧ w'.cell? ⟨g2, 3, none⟩ = some (.float .f64 x) ∧ w'.cell? ⟨g3, 0, none⟩ = some (.int .i64 k2) ∧ w'.cell? ⟨g3, 1, none⟩ = some (.int .i64 a2) ∧ w'.cell? ⟨g3, 2, none⟩ = some (.int .i64 b2) ∧ w'.cell? ⟨g3, 3, none⟩ = some (.float .f64 x2) ∧ Below wt.heap.size wt w') HS8.out ?_
                  refine seqU_step (v := ?_) rfl (steady_val (by rfl) ?_) ?_
                  rotate_left
                  · intro w hSw
                    (try dsimp only at hSw)
                    go_simp
                    with_reducible rfl
                  (try simp only [Act.put, List.setIfInBounds_toArray, List.set_cons_zero, List.set_cons_succ])
                  refine seqU_step (v := ?_) rfl (steady_val (by rfl) ?_) ?_
                  rotate_left
                  · intro w hSw
                    (try dsimp only at hSw)
                    go_simp
                    with_reducible rfl
                  (try simp only [Act.put, List.setIfInBounds_toArray, List.set_cons_zero, List.set_cons_succ])
                  refine seqU_step (v := .bool true) rfl (steady_call (f := 21) (by rfl) ?_ (fun w hS => (LKA.out w).mono (fun e w' h => ⟨h.1, held_keep8 hS h.2⟩))) ?_
                  · intro w hSw
                    go_simp
                  (try simp only [Act.put, List.setIfInBounds_toArray, List.set_cons_zero, List.set_cons_succ])
                  refine seqU_step (v := ?_) rfl (steady_val (by rfl) ?_) ?_
                  rotate_left
                  · intro w hSw
                    (try dsimp only at hSw)
                    go_simp
                    with_reducible rfl
                  (try simp only [Act.put, List.setIfInBounds_toArray, List.set_cons_zero, List.set_cons_succ])
                  refine seqU_step (v := ?_) rfl (steady_val (by rfl) ?_) ?_
                  rotate_left
                  · intro w hSw
                    (try dsimp only at hSw)
                    go_simp
                    with_reducible rfl
                  (try simp only [Act.put, List.setIfInBounds_toArray, List.set_cons_zero, List.set_cons_succ])
                  refine seqU_step (v := .bool true) rfl (steady_call (f := 21) (by rfl) ?_ (fun w hS => (LKB.out w).mono (fun e w' h => ⟨h.1, held_keep8 hS h.2⟩))) ?_
                  · intro w hSw
                    go_simp
                  (try simp only [Act.put, List.setIfInBounds_toArray, List.set_cons_zero, List.set_cons_succ])
                  refine seqU_step (v := ?_) rfl (steady_val (by rfl) ?_) ?_
                  rotate_left
                  · intro w hSw
                    (try dsimp only at hSw)
                    go_simp
                    with_reducible rfl
                  (try simp only [Act.put, List.setIfInBounds_toArray, List.set_cons_zero, List.set_cons_succ])
                  refine seqU_step (v := ?_) rfl (steady_val (by rfl) ?_) ?_
                  rotate_left
                  · intro w hSw
                    (try dsimp only at hSw)
                    go_simp
                    with_reducible rfl
                  (try simp only [Act.put, List.setIfInBounds_toArray, List.set_cons_zero, List.set_cons_succ])
                  refine seqU_step (v := ?_) rfl (steady_val (by rfl) ?_) ?_
                  rotate_left
                  · intro w hSw
                    (try dsimp only at hSw)
                    go_simp
                    with_reducible rfl
                  (try simp only [Act.put, List.setIfInBounds_toArray, List.set_cons_zero, List.set_cons_succ])
                  refine seqU_step (v := ?_) rfl (steady_val (by rfl) ?_) ?_
                  rotate_left
                  · intro w hSw
                    (try dsimp only at hSw)
                    go_simp
                    with_reducible rfl
                  (try simp only [Act.put, List.setIfInBounds_toArray, List.set_cons_zero, List.set_cons_succ])
                  refine seqU_step (v := .bool true) rfl (steady_call (f := 21) (by rfl) ?_ (fun w hS => (LKA.out w).mono (fun e w' h => ⟨h.1, held_keep8 hS h.2⟩))) ?_
                  · intro w hSw
                    go_simp
                  (try simp only [Act.put, List.setIfInBounds_toArray, List.set_cons_zero, List.set_cons_succ])
                  refine seqU_step (v := ?_) rfl (steady_val (by rfl) ?_) ?_
                  rotate_left
                  · intro w hSw
                    (try dsimp only at hSw)
                    go_simp
                    with_reducible rfl
                  (try simp only [Act.put, List.setIfInBounds_toArray, List.set_cons_zero, List.set_cons_succ])
                  refine seqU_step (v := ?_) rfl (steady_val (by rfl) ?_) ?_
                  rotate_left
                  · intro w hSw
                    (try dsimp only at hSw)
                    go_simp
                    with_reducible rfl
                  (try simp only [Act.put, List.setIfInBounds_toArray, List.set_cons_zero, List.set_cons_succ])
                  refine seqU_step (v := ?_) rfl (steady_val (by rfl) ?_) ?_
                  rotate_left
                  · intro w hSw
                    (try dsimp only at hSw)
                    go_simp
                    with_reducible rfl
                  (try simp only [Act.put, List.setIfInBounds_toArray, List.set_cons_zero, List.set_cons_succ])
                  refine seqU_step (v := ?_) rfl (steady_val (by rfl) ?_) ?_
                  rotate_left
                  · intro w hSw
                    (try dsimp only at hSw)
                    go_simp
                    with_reducible rfl
                  (try simp only [Act.put, List.setIfInBounds_toArray, List.set_cons_zero, List.set_cons_succ])
                  refine seqU_step (v := ?_) rfl (steady_val (by rfl) ?_) ?_
                  rotate_left
                  · intro w hSw
                    (try dsimp only at hSw)
                    go_simp
                    with_reducible rfl
                  (try simp only [Act.put, List.setIfInBounds_toArray, List.set_cons_zero, List.set_cons_succ])
                  refine seqU_step (v := ?_) rfl (steady_val (by rfl) ?_) ?_
                  rotate_left
                  · intro w hSw
                    (try dsimp only at hSw)
                    go_simp
                    with_reducible rfl
                  (try simp only [Act.put, List.setIfInBounds_toArray, List.set_cons_zero, List.set_cons_succ])
                  refine seqU_step (v := ?_) rfl (steady_val (by rfl) ?_) ?_
                  rotate_left
                  · intro w hSw
                    (try dsimp only at hSw)
                    go_simp
                    with_reducible rfl
                  (try simp only [Act.put, List.setIfInBounds_toArray, List.set_cons_zero, List.set_cons_succ])
                  refine seqU_step (v := ?_) rfl (steady_val (by rfl) ?_) ?_
                  rotate_left
                  · intro w hSw
                    (try dsimp only at hSw)
                    go_simp
                    with_reducible rfl
                  (try simp only [Act.put, List.setIfInBounds_toArray, List.set_cons_zero, List.set_cons_succ])
                  refine seqU_step (v := ?_) rfl (steady_val (by rfl) ?_) ?_
                  rotate_left
                  · intro w hSw
                    (try dsimp only at hSw)
                    go_simp
                    with_reducible rfl
                  (try simp only [Act.put, List.setIfInBounds_toArray, List.set_cons_zero, List.set_cons_succ])
                  refine seqU_step (v := ?_) rfl (steady_val (by rfl) ?_) ?_
                  rotate_left
                  · intro w hSw
                    (try dsimp only at hSw)
                    go_simp
                    with_reducible rfl
                  (try simp only [Act.put, List.setIfInBounds_toArray, List.set_cons_zero, List.set_cons_succ])
                  refine seqU_step (v := ?_) rfl (steady_val (by rfl) ?_) ?_
                  rotate_left
                  · intro w hSw
                    (try dsimp only at hSw)
                    go_simp
                    with_reducible rfl
                  (try simp only [Act.put, List.setIfInBounds_toArray, List.set_cons_zero, List.set_cons_succ])
                  refine seqU_step (v := ?_) rfl (steady_val (by rfl) ?_) ?_
                  rotate_left
                  · intro w hSw
                    (try dsimp only at hSw)
                    go_simp
                    with_reducible rfl
                  (try simp only [Act.put, List.setIfInBounds_toArray, List.set_cons_zero, List.set_cons_succ])
                  refine seqU_step (v := ?_) rfl (steady_val (by rfl) ?_) ?_
                  rotate_left
                  · intro w hSw
                    (try dsimp only at hSw)
                    go_simp
                    with_reducible rfl
                  (try simp only [Act.put, List.setIfInBounds_toArray, List.set_cons_zero, List.set_cons_succ])
                  refine seqU_step (v := ?_) rfl (steady_val (by rfl) ?_) ?_
                  rotate_left
                  · intro w hSw
                    (try dsimp only at hSw)
                    go_simp
                    with_reducible rfl
                  (try simp only [Act.put, List.setIfInBounds_toArray, List.set_cons_zero, List.set_cons_succ])
                  refine seqU_step (v := undef) rfl (steady_not (by rfl)) ?_
                  (try simp only [Act.put, List.setIfInBounds_toArray, List.set_cons_zero, List.set_cons_succ])
                  refine seqU_step (v := undef) rfl (steady_not (by rfl)) ?_
                  (try simp only [Act.put, List.setIfInBounds_toArray, List.set_cons_zero, List.set_cons_succ])
                  refine seqU_step (v := undef) rfl (steady_not (by rfl)) ?_
                  (try simp only [Act.put, List.setIfInBounds_toArray, List.set_cons_zero, List.set_cons_succ])
                  refine seqU_step (v := undef) rfl (steady_not (by rfl)) ?_
                  (try simp only [Act.put, List.setIfInBounds_toArray, List.set_cons_zero, List.set_cons_succ])
                  refine seqU_step (v := undef) rfl (steady_not (by rfl)) ?_
                  (try simp only [Act.put, List.setIfInBounds_toArray, List.set_cons_zero, List.set_cons_succ])
                  refine seqU_step (v := undef) rfl (steady_not (by rfl)) ?_
                  (try simp only [Act.put, List.setIfInBounds_toArray, List.set_cons_zero, List.set_cons_succ])
                  refine seqU_step (v := undef) rfl (steady_not (by rfl)) ?_
                  (try simp only [Act.put, List.setIfInBounds_toArray, List.set_cons_zero, List.set_cons_succ])
                  refine seqU_step (v := undef) rfl (steady_not (by rfl)) ?_
                  (try simp only [Act.put, List.setIfInBounds_toArray, List.set_cons_zero, List.set_cons_succ])
                  refine seqU_step (v := undef) rfl (steady_not (by rfl)) ?_
                  (try simp only [Act.put, List.setIfInBounds_toArray, List.set_cons_zero, List.set_cons_succ])
                  refine seqU_step (v := undef) rfl (steady_not (by rfl)) ?_
                  (try simp only [Act.put, List.setIfInBounds_toArray, List.set_cons_zero, List.set_cons_succ])
                  refine seqU_step (v := undef) rfl (steady_not (by rfl)) ?_
                  (try simp only [Act.put, List.setIfInBounds_toArray, List.set_cons_zero, List.set_cons_succ])
                  refine seqU_step (v := undef) rfl (steady_not (by rfl)) ?_
                  (try simp only [Act.put, List.setIfInBounds_toArray, List.set_cons_zero, List.set_cons_succ])
                  refine seqU_step (v := ?_) rfl (steady_val (by rfl) ?_) ?_
                  rotate_left
                  · intro w hSw
                    (try dsimp only at hSw)
                    go_simp
                    with_reducible rfl
                  (try simp only [Act.put, List.setIfInBounds_toArray, List.set_cons_zero, List.set_cons_succ])
                  refine seqU_step (v := ?_) rfl (steady_val (by rfl) ?_) ?_
                  rotate_left
                  · intro w hSw
                    (try dsimp only at hSw)
                    go_simp
                    with_reducible rfl
                  (try simp only [Act.put, List.setIfInBounds_toArray, List.set_cons_zero, List.set_cons_succ])
                  refine seqU_step (v := ?_) rfl (steady_val (by rfl) ?_) ?_
                  rotate_left
                  · intro w hSw
                    (try dsimp only at hSw)
                    go_simp
                    with_reducible rfl
                  (try simp only [Act.put, List.setIfInBounds_toArray, List.set_cons_zero, List.set_cons_succ])
                  refine seqU_step (v := ?_) rfl (steady_val (by rfl) ?_) ?_
                  rotate_left
                  · intro w hSw
                    (try dsimp only at hSw)
                    go_simp
                    with_reducible rfl
                  (try simp only [Act.put, List.setIfInBounds_toArray, List.set_cons_zero, List.set_cons_succ])
                  refine seqU_step (v := ?_) rfl (steady_val (by rfl) ?_) ?_
                  rotate_left
                  · intro w hSw
                    (try dsimp only at hSw)
                    go_simp
                    with_reducible rfl
                  (try simp only [Act.put, List.setIfInBounds_toArray, List.set_cons_zero, List.set_cons_succ])
                  refine seqU_step (v := ?_) rfl (steady_val (by rfl) ?_) ?_
                  rotate_left
                  · intro w hSw
                    (try dsimp only at hSw)
                    go_simp
                    with_reducible rfl
                  (try simp only [Act.put, List.setIfInBounds_toArray, List.set_cons_zero, List.set_cons_succ])
                  refine seqU_step (v := ?_) rfl (steady_val (by rfl) ?_) ?_
                  rotate_left
                  · intro w hSw
                    (try dsimp only at hSw)
                    go_simp
                    with_reducible rfl
                  (try simp only [Act.put, List.setIfInBounds_toArray, List.set_cons_zero, List.set_cons_succ])
                  refine seqU_step (v := .bool true) rfl (steady_call (f := 21) (by rfl) ?_ (fun w hS => (LKA.out w).mono (fun e w' h => ⟨h.1, held_keep8 hS h.2⟩))) ?_
                  · intro w hSw
                    go_simp
                  (try simp only [Act.put, List.setIfInBounds_toArray, List.set_cons_zero, List.set_cons_succ])
                  refine seqU_step (v := ?_) rfl (steady_val (by rfl) ?_) ?_
                  rotate_left
                  · intro w hSw
                    (try dsimp only at hSw)
                    go_simp
                    with_reducible rfl
                  (try simp only [Act.put, List.setIfInBounds_toArray, List.set_cons_zero, List.set_cons_succ])
                  refine seqU_step (v := ?_) rfl (steady_val (by rfl) ?_) ?_
                  rotate_left
                  · intro w hSw
                    (try dsimp only at hSw)
                    go_simp
                    with_reducible rfl
                  (try simp only [Act.put, List.setIfInBounds_toArray, List.set_cons_zero, List.set_cons_succ])
                  refine seqU_step (v := undef) rfl (steady_not (by rfl)) ?_
                  (try simp only [Act.put, List.setIfInBounds_toArray, List.set_cons_zero, List.set_cons_succ])
                  refine seqU_step (v := undef) rfl (steady_not (by rfl)) ?_
                  (try simp only [Act.put, List.setIfInBounds_toArray, List.set_cons_zero, List.set_cons_succ])
                  refine seqU_step (v := undef) rfl (steady_not (by rfl)) ?_
                  (try simp only [Act.put, List.setIfInBounds_toArray, List.set_cons_zero, List.set_cons_succ])
                  refine seqU_step (v := undef) rfl (steady_not (by rfl)) ?_
                  (try simp only [Act.put, List.setIfInBounds_toArray, List.set_cons_zero, List.set_cons_succ])
                  refine seqU_step (v := undef) rfl (steady_not (by rfl)) ?_
                  (try simp only [Act.put, List.setIfInBounds_toArray, List.set_cons_zero, List.set_cons_succ])
                  refine seqU_step (v := ?_) rfl (steady_val (by rfl) ?_) ?_
                  rotate_left
                  · intro w hSw
                    (try dsimp only at hSw)
                    go_simp
                    with_reducible rfl
                  (try simp only [Act.put, List.setIfInBounds_toArray, List.set_cons_zero, List.set_cons_succ])
                  refine seqU_step (v := ?_) rfl (steady_val (by rfl) ?_) ?_
                  rotate_left
                  · intro w hSw
                    (try dsimp only at hSw)
                    go_simp
                    with_reducible rfl
                  (try simp only [Act.put, List.setIfInBounds_toArray, List.set_cons_zero, List.set_cons_succ])
                  refine seqU_step (v := ?_) rfl (steady_val (by rfl) ?_) ?_
                  rotate_left
                  · intro w hSw
                    (try dsimp only at hSw)
                    go_simp
                    with_reducible rfl
                  (try simp only [Act.put, List.setIfInBounds_toArray, List.set_cons_zero, List.set_cons_succ])
                  refine seqU_done (fun w' hS => ?_)
                  have HBQ := Lib.hid (heldB8 hS)
                  clear hS
                  go_wp2_with (fail)
                  go_meet
                  case rel => exact ⟨false, rfl, Lib.hid (fun h => by cases h), HBQ⟩
              · by_cases c3 : a = b2
                · by_cases c4 : b = a2
                  · have LKA := Lib.hid (fun w' => (by have q := linkd_any k a b x w'; rw [show decide (k ≤ 5) = true by simp; omega] at q; exact q : Calls Try.prog 21 #[.agg #[.int .i64 k, .int .i64 a, .int .i64 b, .float .f64 x]] w' fun e w2 => e = .returned (.bool true) ∧ Below w'.heap.size w' w2))
                    have LKB := Lib.hid (fun w' => (by have q := linkd_any k2 a2 b2 x2 w'; rw [show decide (k2 ≤ 5) = true by simp; omega] at q; exact q : Calls Try.prog 21 #[.agg #[.int .i64 k2, .int .i64 a2, .int .i64 b2, .float .f64 x2]] w' fun e w2 => e = .returned (.bool true) ∧ Below w'.heap.size w' w2))
                    have c1' : (a == a2) = true := by rw [beq_iff_eq]; exact c1
                    have c1'' : (a != a2) = false := by simp; exact c1
                    have c2' : (b == b2) = false := by rw [beq_eq_false_iff_ne]; exact c2
                    have c3' : (a == b2) = true := by rw [beq_iff_eq]; exact c3
                    have c4' : (b == a2) = true := by rw [beq_iff_eq]; exact c4
                    clear la lb c1 c2 c3 c4 GG0
                    clear HAP HBP HL1 HL2 HN HL HWL HX HE1 HEI HPL HY1 HY2 HY3 HB1 GAT HB2 HZ1 HZ2 HZ3 HP1 HP2 HT HA1 HA2 HA3 HQ1 HQ2 HAB HC3 HC3d BX1 BX7 BX2 BX3 BXN BXW BXG HK33
                    as_aux_lemma =>
                      refine wp_region_seq (by kernel_rfl) (by as_aux_lemma => kernel_rfl) (fun w' => w'.cell? ⟨g2, 0, none⟩ = some (.int .i64 k) ∧ w'.cell? ⟨g2, 1, none⟩ = some (.int .i64 a) ∧ w'.cell? ⟨g2, 2, none⟩ = some (.int .i64 b) ∧ w'.cell? ⟨g2, 3, none⟩ = some (.float .f64 x) ∧ w'.cell? ⟨g3, 0, none⟩ = some (.int .i64 k2) ∧ w'.cell? ⟨g3, 1, none⟩ = some (.int .i64 a2) ∧ w'.cell? ⟨g3, 2, none⟩ = some (.int .i64 b2) ∧ w'.cell? ⟨g3, 3, none⟩ = some (.float .f64 x2) ∧ Below wt.heap.size wt w') HS8.out ?_
                      refine seqU_step (v := ?_) rfl (steady_val (by rfl) ?_) ?_
                      rotate_left
                      · intro w hSw
                        (try dsimp only at hSw)
                        go_simp
                        with_reducible rfl
                      (try simp only [Act.put, List.setIfInBounds_toArray, List.set_cons_zero, List.set_cons_succ])
                      refine seqU_step (v := ?_) rfl (steady_val (by rfl) ?_) ?_
                      rotate_left
                      · intro w hSw
                        (try dsimp only at hSw)
                        go_simp
                        with_reducible rfl
                      (try simp only [Act.put, List.setIfInBounds_toArray, List.set_cons_zero, List.set_cons_succ])
                      refine seqU_step (v := .bool true) rfl (steady_call (f := 21) (by rfl) ?_ (fun w hS => (LKA.out w).mono (fun e w' h => ⟨h.1, held_keep8 hS h.2⟩))) ?_
                      · intro w hSw
                        go_simp
                      (try simp only [Act.put, List.setIfInBounds_toArray, List.set_cons_zero, List.set_cons_succ])
                      refine seqU_step (v := ?_) rfl (steady_val (by rfl) ?_) ?_
                      rotate_left
                      · intro w hSw
                        (try dsimp only at hSw)
                        go_simp
                        with_reducible rfl
                      (try simp only [Act.put, List.setIfInBounds_toArray, List.set_cons_zero, List.set_cons_succ])
                      refine seqU_step (v := ?_) rfl (steady_val (by rfl) ?_) ?_
                      rotate_left
                      · intro w hSw
                        (try dsimp only at hSw)
                        go_simp
                        with_reducible rfl
                      (try simp only [Act.put, List.setIfInBounds_toArray, List.set_cons_zero, List.set_cons_succ])
                      refine seqU_step (v := .bool true) rfl (steady_call (f := 21) (by rfl) ?_ (fun w hS => (LKB.out w).mono (fun e w' h => ⟨h.1, held_keep8 hS h.2⟩))) ?_
                      · intro w hSw
                        go_simp
                      (try simp only [Act.put, List.setIfInBounds_toArray, List.set_cons_zero, List.set_cons_succ])
                      refine seqU_step (v := ?_) rfl (steady_val (by rfl) ?_) ?_
                      rotate_left
                      · intro w hSw
                        (try dsimp only at hSw)
                        go_simp
                        with_reducible rfl
                      (try simp only [Act.put, List.setIfInBounds_toArray, List.set_cons_zero, List.set_cons_succ])
                      refine seqU_step (v := ?_) rfl (steady_val (by rfl) ?_) ?_
                      rotate_left
                      · intro w hSw
                        (try dsimp only at hSw)
                        go_simp
                        with_reducible rfl
                      (try simp only [Act.put, List.setIfInBounds_toArray, List.set_cons_zero, List.set_cons_succ])
                      refine seqU_step (v := ?_) rfl (steady_val (by rfl) ?_) ?_
                      rotate_left
                      · intro w hSw
                        (try dsimp only at hSw)
                        go_simp
                        with_reducible rfl
                      (try simp only [Act.put, List.setIfInBounds_toArray, List.set_cons_zero, List.set_cons_succ])
                      refine seqU_step (v := ?_) rfl (steady_val (by rfl) ?_) ?_
                      rotate_left
                      · intro w hSw
                        (try dsimp only at hSw)
                        go_simp
                        with_reducible rfl
                      (try simp only [Act.put, List.setIfInBounds_toArray, List.set_cons_zero, List.set_cons_succ])
                      refine seqU_step (v := .bool true) rfl (steady_call (f := 21) (by rfl) ?_ (fun w hS => (LKA.out w).mono (fun e w' h => ⟨h.1, held_keep8 hS h.2⟩))) ?_
                      · intro w hSw
                        go_simp
                      (try simp only [Act.put, List.setIfInBounds_toArray, List.set_cons_zero, List.set_cons_succ])
                      refine seqU_step (v := ?_) rfl (steady_val (by rfl) ?_) ?_
                      rotate_left
                      · intro w hSw
                        (try dsimp only at hSw)
                        go_simp
                        with_reducible rfl
                      (try simp only [Act.put, List.setIfInBounds_toArray, List.set_cons_zero, List.set_cons_succ])
                      refine seqU_step (v := ?_) rfl (steady_val (by rfl) ?_) ?_
                      rotate_left
                      · intro w hSw
                        (try dsimp only at hSw)
                        go_simp
                        with_reducible rfl
                      (try simp only [Act.put, List.setIfInBounds_toArray, List.set_cons_zero, List.set_cons_succ])
                      refine seqU_step (v := ?_) rfl (steady_val (by rfl) ?_) ?_
                      rotate_left
                      · intro w hSw
                        (try dsimp only at hSw)
                        go_simp
                        with_reducible rfl
                      (try simp only [Act.put, List.setIfInBounds_toArray, List.set_cons_zero, List.set_cons_succ])
                      refine seqU_step (v := ?_) rfl (steady_val (by rfl) ?_) ?_
                      rotate_left
                      · intro w hSw
                        (try dsimp only at hSw)
                        go_simp
                        with_reducible rfl
                      (try simp only [Act.put, List.setIfInBounds_toArray, List.set_cons_zero, List.set_cons_succ])
                      refine seqU_step (v := ?_) rfl (steady_val (by rfl) ?_) ?_
                      rotate_left
                      · intro w hSw
                        (try dsimp only at hSw)
                        go_simp
                        with_reducible rfl
                      (try simp only [Act.put, List.setIfInBounds_toArray, List.set_cons_zero, List.set_cons_succ])
                      refine seqU_step (v := ?_) rfl (steady_val (by rfl) ?_) ?_
                      rotate_left
                      · intro w hSw
                        (try dsimp only at hSw)
                        go_simp
                        with_reducible rfl
                      (try simp only [Act.put, List.setIfInBounds_toArray, List.set_cons_zero, List.set_cons_succ])
                      refine seqU_step (v := ?_) rfl (steady_val (by rfl) ?_) ?_
                      rotate_left
                      · intro w hSw
                        (try dsimp only at hSw)
                        go_simp
                        with_reducible rfl
                      (try simp only [Act.put, List.setIfInBounds_toArray, List.set_cons_zero, List.set_cons_succ])
                      refine seqU_step (v := ?_) rfl (steady_val (by rfl) ?_) ?_
                      rotate_left
                      · intro w hSw
                        (try dsimp only at hSw)
                        go_simp
                        with_reducible rfl
                      (try simp only [Act.put, List.setIfInBounds_toArray, List.set_cons_zero, List.set_cons_succ])
                      refine seqU_step (v := ?_) rfl (steady_val (by rfl) ?_) ?_
                      rotate_left
                      · intro w hSw
                        (try dsimp only at hSw)
                        go_simp
                        with_reducible rfl
                      (try simp only [Act.put, List.setIfInBounds_toArray, List.set_cons_zero, List.set_cons_succ])
                      refine seqU_step (v := ?_) rfl (steady_val (by rfl) ?_) ?_
                      rotate_left
                      · intro w hSw
                        (try dsimp only at hSw)
                        go_simp
                        with_reducible rfl
                      (try simp only [Act.put, List.setIfInBounds_toArray, List.set_cons_zero, List.set_cons_succ])
                      refine seqU_step (v := ?_) rfl (steady_val (by rfl) ?_) ?_
                      rotate_left
                      · intro w hSw
                        (try dsimp only at hSw)
                        go_simp
                        with_reducible rfl
                      (try simp only [Act.put, List.setIfInBounds_toArray, List.set_cons_zero, List.set_cons_succ])
                      refine seqU_step (v := ?_) rfl (steady_val (by rfl) ?_) ?_
                      rotate_left
                      · intro w hSw
                        (try dsimp only at hSw)
                        go_simp
                        with_reducible rfl
                      (try simp only [Act.put, List.setIfInBounds_toArray, List.set_cons_zero, List.set_cons_succ])
                      refine seqU_step (v := ?_) rfl (steady_val (by rfl) ?_) ?_
                      rotate_left
                      · intro w hSw
                        (try dsimp only at hSw)
                        go_simp
                        with_reducible rfl
                      (try simp only [Act.put, List.setIfInBounds_toArray, List.set_cons_zero, List.set_cons_succ])
                      refine seqU_step (v := ?_) rfl (steady_val (by rfl) ?_) ?_
                      rotate_left
                      · intro w hSw
                        (try dsimp only at hSw)
                        go_simp
                        with_reducible rfl
                      (try simp only [Act.put, List.setIfInBounds_toArray, List.set_cons_zero, List.set_cons_succ])
                      refine seqU_step (v := ?_) rfl (steady_val (by rfl) ?_) ?_
                      rotate_left
                      · intro w hSw
                        (try dsimp only at hSw)
                        go_simp
                        with_reducible rfl
                      (try simp only [Act.put, List.setIfInBounds_toArray, List.set_cons_zero, List.set_cons_succ])
                      refine seqU_step (v := ?_) rfl (steady_val (by rfl) ?_) ?_
                      rotate_left
                      · intro w hSw
                        (try dsimp only at hSw)
                        go_simp
                        with_reducible rfl
                      (try simp only [Act.put, List.setIfInBounds_toArray, List.set_cons_zero, List.set_cons_succ])
                      refine seqU_step (v := ?_) rfl (steady_val (by rfl) ?_) ?_
                      rotate_left
                      · intro w hSw
                        (try dsimp only at hSw)
                        go_simp
                        with_reducible rfl
                      (try simp only [Act.put, List.setIfInBounds_toArray, List.set_cons_zero, List.set_cons_succ])
                      refine seqU_step (v := ?_) rfl (steady_val (by rfl) ?_) ?_
                      rotate_left
                      · intro w hSw
                        (try dsimp only at hSw)
                        go_simp
                        with_reducible rfl
                      (try simp only [Act.put, List.setIfInBounds_toArray, List.set_cons_zero, List.set_cons_succ])
                      refine seqU_step (v := ?_) rfl (steady_val (by rfl) ?_) ?_
                      rotate_left
                      · intro w hSw
                        (try dsimp only at hSw)
                        go_simp
                        with_reducible rfl
                      (try simp only [Act.put, List.setIfInBounds_toArray, List.set_cons_zero, List.set_cons_succ])
                      refine seqU_step (v := ?_) rfl (steady_val (by rfl) ?_) ?_
                      rotate_left
                      · intro w hSw
                        (try dsimp only at hSw)
                        go_simp
                        with_reducible rfl
                      (try simp only [Act.put, List.setIfInBounds_toArray, List.set_cons_zero, List.set_cons_succ])
                      refine seqU_step (v := ?_) rfl (steady_val (by rfl) ?_) ?_
                      rotate_left
                      · intro w hSw
                        (try dsimp only at hSw)
                        go_simp
                        with_reducible rfl
                      (try simp only [Act.put, List.setIfInBounds_toArray, List.set_cons_zero, List.set_cons_succ])
                      refine seqU_step (v := ?_) rfl (steady_val (by rfl) ?_) ?_
                      rotate_left
                      · intro w hSw
                        (try dsimp only at hSw)
                        go_simp
                        with_reducible rfl
                      (try simp only [Act.put, List.setIfInBounds_toArray, List.set_cons_zero, List.set_cons_succ])
                      refine seqU_step (v := ?_) rfl (steady_val (by rfl) ?_) ?_
                      rotate_left
                      · intro w hSw
                        (try dsimp only at hSw)
                        go_simp
                        with_reducible rfl
                      (try simp only [Act.put, List.setIfInBounds_toArray, List.set_cons_zero, List.set_cons_succ])
                      refine seqU_step (v := ?_) rfl (steady_val (by rfl) ?_) ?_
                      rotate_left
                      · intro w hSw
                        (try dsimp only at hSw)
                        go_simp
                        with_reducible rfl
                      (try simp only [Act.put, List.setIfInBounds_toArray, List.set_cons_zero, List.set_cons_succ])
                      refine seqU_step (v := ?_) rfl (steady_val (by rfl) ?_) ?_
                      rotate_left
                      · intro w hSw
                        (try dsimp only at hSw)
                        go_simp
                        with_reducible rfl
                      (try simp only [Act.put, List.setIfInBounds_toArray, List.set_cons_zero, List.set_cons_succ])
                      refine seqU_step (v := ?_) rfl (steady_val (by rfl) ?_) ?_
                      rotate_left
                      · intro w hSw
                        (try dsimp only at hSw)
                        go_simp
                        with_reducible rfl
                      (try simp only [Act.put, List.setIfInBounds_toArray, List.set_cons_zero, List.set_cons_succ])
                      refine seqU_step (v := ?_) rfl (steady_val (by rfl) ?_) ?_
                      rotate_left
                      · intro w hSw
                        (try dsimp only at hSw)
                        go_simp
                        with_reducible rfl
                      (try simp only [Act.put, List.setIfInBounds_toArray, List.set_cons_zero, List.set_cons_succ])
                      refine seqU_step (v := ?_) rfl (steady_val (by rfl) ?_) ?_
                      rotate_left
                      · intro w hSw
                        (try dsimp only at hSw)
                        go_simp
                        with_reducible rfl
                      (try simp only [Act.put, List.setIfInBounds_toArray, List.set_cons_zero, List.set_cons_succ])
                      refine seqU_step (v := ?_) rfl (steady_val (by rfl) ?_) ?_
                      rotate_left
                      · intro w hSw
                        (try dsimp only at hSw)
                        go_simp
                        with_reducible rfl
                      (try simp only [Act.put, List.setIfInBounds_toArray, List.set_cons_zero, List.set_cons_succ])
                      refine seqU_step (v := ?_) rfl (steady_val (by rfl) ?_) ?_
                      rotate_left
                      · intro w hSw
                        (try dsimp only at hSw)
                        go_simp
                        with_reducible rfl
                      (try simp only [Act.put, List.setIfInBounds_toArray, List.set_cons_zero, List.set_cons_succ])
                      refine seqU_step (v := ?_) rfl (steady_val (by rfl) ?_) ?_
                      rotate_left
                      · intro w hSw
                        (try dsimp only at hSw)
                        go_simp
                        with_reducible rfl
                      (try simp only [Act.put, List.setIfInBounds_toArray, List.set_cons_zero, List.set_cons_succ])
                      refine seqU_step (v := ?_) rfl (steady_val (by rfl) ?_) ?_
                      rotate_left
                      · intro w hSw
                        (try dsimp only at hSw)
                        go_simp
                        with_reducible rfl
                      (try simp only [Act.put, List.setIfInBounds_toArray, List.set_cons_zero, List.set_cons_succ])
                      refine seqU_step (v := ?_) rfl (steady_val (by rfl) ?_) ?_
                      rotate_left
                      · intro w hSw
                        (try dsimp only at hSw)
                        go_simp
                        with_reducible rfl
                      (try simp only [Act.put, List.setIfInBounds_toArray, List.set_cons_zero, List.set_cons_succ])
                      refine seqU_step (v := .bool true) rfl (steady_call (f := 21) (by rfl) ?_ (fun w hS => (LKA.out w).mono (fun e w' h => ⟨h.1, held_keep8 hS h.2⟩))) ?_
                      · intro w hSw
                        go_simp
                      (try simp only [Act.put, List.setIfInBounds_toArray, List.set_cons_zero, List.set_cons_succ])
                      refine seqU_step (v := ?_) rfl (steady_val (by rfl) ?_) ?_
                      rotate_left
                      · intro w hSw
                        (try dsimp only at hSw)
                        go_simp
                        with_reducible rfl
                      (try simp only [Act.put, List.setIfInBounds_toArray, List.set_cons_zero, List.set_cons_succ])
                      refine seqU_step (v := ?_) rfl (steady_val (by rfl) ?_) ?_
                      rotate_left
                      · intro w hSw
                        (try dsimp only at hSw)
                        go_simp
                        with_reducible rfl
                      (try simp only [Act.put, List.setIfInBounds_toArray, List.set_cons_zero, List.set_cons_succ])
                      refine seqU_step (v := undef) rfl (steady_not (by rfl)) ?_
                      (try simp only [Act.put, List.setIfInBounds_toArray, List.set_cons_zero, List.set_cons_succ])
                      refine seqU_step (v := undef) rfl (steady_not (by rfl)) ?_
                      (try simp only [Act.put, List.setIfInBounds_toArray, List.set_cons_zero, List.set_cons_succ])
                      refine seqU_step (v := undef) rfl (steady_not (by rfl)) ?_
                      (try simp only [Act.put, List.setIfInBounds_toArray, List.set_cons_zero, List.set_cons_succ])
                      refine seqU_step (v := undef) rfl (steady_not (by rfl)) ?_
                      (try simp only [Act.put, List.setIfInBounds_toArray, List.set_cons_zero, List.set_cons_succ])
                      refine seqU_step (v := undef) rfl (steady_not (by rfl)) ?_
                      (try simp only [Act.put, List.setIfInBounds_toArray, List.set_cons_zero, List.set_cons_succ])
                      refine seqU_step (v := ?_) rfl (steady_val (by rfl) ?_) ?_
                      rotate_left
                      · intro w hSw
                        (try dsimp only at hSw)
                        go_simp
                        with_reducible rfl
                      (try simp only [Act.put, List.setIfInBounds_toArray, List.set_cons_zero, List.set_cons_succ])
                      refine seqU_step (v := ?_) rfl (steady_val (by rfl) ?_) ?_
                      rotate_left
                      · intro w hSw
                        (try dsimp only at hSw)
                        go_simp
                        with_reducible rfl
                      (try simp only [Act.put, List.setIfInBounds_toArray, List.set_cons_zero, List.set_cons_succ])
                      refine seqU_step (v := ?_) rfl (steady_val (by rfl) ?_) ?_
                      rotate_left
                      · intro w hSw
                        (try dsimp only at hSw)
                        go_simp
                        with_reducible rfl
                      (try simp only [Act.put, List.setIfInBounds_toArray, List.set_cons_zero, List.set_cons_succ])
                      refine seqU_done (fun w' hS => ?_)
                      have HBQ := Lib.hid (heldB8 hS)
                      clear hS
                      go_wp2_with (fail)
                      go_meet
                      case rel => exact ⟨false, rfl, Lib.hid (fun h => by cases h), HBQ⟩
                  · have HAPT := Lib.hid (show apart k a b k2 a2 b2 by unfold apart; omega)
                    have LKA := Lib.hid (fun w' => (by have q := linkd_any k a b x w'; rw [show decide (k ≤ 5) = true by simp; omega] at q; exact q : Calls Try.prog 21 #[.agg #[.int .i64 k, .int .i64 a, .int .i64 b, .float .f64 x]] w' fun e w2 => e = .returned (.bool true) ∧ Below w'.heap.size w' w2))
                    have LKB := Lib.hid (fun w' => (by have q := linkd_any k2 a2 b2 x2 w'; rw [show decide (k2 ≤ 5) = true by simp; omega] at q; exact q : Calls Try.prog 21 #[.agg #[.int .i64 k2, .int .i64 a2, .int .i64 b2, .float .f64 x2]] w' fun e w2 => e = .returned (.bool true) ∧ Below w'.heap.size w' w2))
                    have c1' : (a == a2) = true := by rw [beq_iff_eq]; exact c1
                    have c1'' : (a != a2) = false := by simp; exact c1
                    have c2' : (b == b2) = false := by rw [beq_eq_false_iff_ne]; exact c2
                    have c3' : (a == b2) = true := by rw [beq_iff_eq]; exact c3
                    have c4' : (b == a2) = false := by rw [beq_eq_false_iff_ne]; exact c4
                    clear la lb c1 c2 c3 c4 GG0
                    clear HAP HBP HL1 HL2 HN HL HWL HX HE1 HEI HPL HY1 HY2 HY3 HB1 GAT HB2 HZ1 HZ2 HZ3 HP1 HP2 HT HA1 HA2 HA3 HQ1 HQ2 HAB HC3 HC3d BX1 BX7 BX2 BX3 BXN BXW BXG HK33
                    as_aux_lemma =>
                      refine wp_region_seq (by kernel_rfl) (by as_aux_lemma => kernel_rfl) (fun w' => w'.cell? ⟨g2, 0, none⟩ = some (.int .i64 k) ∧ w'.cell? ⟨g2, 1, none⟩ = some (.int .i64 a) ∧ w'.cell? ⟨g2, 2, none⟩ = some (.int .i64 b) ∧ w'.cell? ⟨g2, 3, none⟩ = some (.float .f64 x) ∧ w'.cell? ⟨g3, 0, none⟩ = some (.int .i64 k2) ∧ w'.cell? ⟨g3, 1, none⟩ = some (.int .i64 a2) ∧ w'.cell? ⟨g3, 2, none⟩ = some (.int .i64 b2) ∧ w'.cell? ⟨g3, 3, none⟩ = some (.float .f64 x2) ∧ Below wt.heap.size wt w') HS8.out ?_
                      refine seqU_step (v := ?_) rfl (steady_val (by rfl) ?_) ?_
                      rotate_left
                      · intro w hSw
                        (try dsimp only at hSw)
                        go_simp
                        with_reducible rfl
                      (try simp only [Act.put, List.setIfInBounds_toArray, List.set_cons_zero, List.set_cons_succ])
                      refine seqU_step (v := ?_) rfl (steady_val (by rfl) ?_) ?_
                      rotate_left
                      · intro w hSw
                        (try dsimp only at hSw)
                        go_simp
                        with_reducible rfl
                      (try simp only [Act.put, List.setIfInBounds_toArray, List.set_cons_zero, List.set_cons_succ])
                      refine seqU_step (v := .bool true) rfl (steady_call (f := 21) (by rfl) ?_ (fun w hS => (LKA.out w).mono (fun e w' h => ⟨h.1, held_keep8 hS h.2⟩))) ?_
                      · intro w hSw
                        go_simp
                      (try simp only [Act.put, List.setIfInBounds_toArray, List.set_cons_zero, List.set_cons_succ])
                      refine seqU_step (v := ?_) rfl (steady_val (by rfl) ?_) ?_
                      rotate_left
                      · intro w hSw
                        (try dsimp only at hSw)
                        go_simp
                        with_reducible rfl
                      (try simp only [Act.put, List.setIfInBounds_toArray, List.set_cons_zero, List.set_cons_succ])
                      refine seqU_step (v := ?_) rfl (steady_val (by rfl) ?_) ?_
                      rotate_left
                      · intro w hSw
                        (try dsimp only at hSw)
                        go_simp
                        with_reducible rfl
                      (try simp only [Act.put, List.setIfInBounds_toArray, List.set_cons_zero, List.set_cons_succ])
                      refine seqU_step (v := .bool true) rfl (steady_call (f := 21) (by rfl) ?_ (fun w hS => (LKB.out w).mono (fun e w' h => ⟨h.1, held_keep8 hS h.2⟩))) ?_
                      · intro w hSw
                        go_simp
                      (try simp only [Act.put, List.setIfInBounds_toArray, List.set_cons_zero, List.set_cons_succ])
                      refine seqU_step (v := ?_) rfl (steady_val (by rfl) ?_) ?_
                      rotate_left
                      · intro w hSw
                        (try dsimp only at hSw)
                        go_simp
                        with_reducible rfl
                      (try simp only [Act.put, List.setIfInBounds_toArray, List.set_cons_zero, List.set_cons_succ])
                      refine seqU_step (v := ?_) rfl (steady_val (by rfl) ?_) ?_
                      rotate_left
                      · intro w hSw
                        (try dsimp only at hSw)
                        go_simp
                        with_reducible rfl
                      (try simp only [Act.put, List.setIfInBounds_toArray, List.set_cons_zero, List.set_cons_succ])
                      refine seqU_step (v := ?_) rfl (steady_val (by rfl) ?_) ?_
                      rotate_left
                      · intro w hSw
                        (try dsimp only at hSw)
                        go_simp
                        with_reducible rfl
                      (try simp only [Act.put, List.setIfInBounds_toArray, List.set_cons_zero, List.set_cons_succ])
                      refine seqU_step (v := ?_) rfl (steady_val (by rfl) ?_) ?_
                      rotate_left
                      · intro w hSw
                        (try dsimp only at hSw)
                        go_simp
                        with_reducible rfl
                      (try simp only [Act.put, List.setIfInBounds_toArray, List.set_cons_zero, List.set_cons_succ])
                      refine seqU_step (v := .bool true) rfl (steady_call (f := 21) (by rfl) ?_ (fun w hS => (LKA.out w).mono (fun e w' h => ⟨h.1, held_keep8 hS h.2⟩))) ?_
                      · intro w hSw
                        go_simp
                      (try simp only [Act.put, List.setIfInBounds_toArray, List.set_cons_zero, List.set_cons_succ])
                      refine seqU_step (v := ?_) rfl (steady_val (by rfl) ?_) ?_
                      rotate_left
                      · intro w hSw
                        (try dsimp only at hSw)
                        go_simp
                        with_reducible rfl
                      (try simp only [Act.put, List.setIfInBounds_toArray, List.set_cons_zero, List.set_cons_succ])
                      refine seqU_step (v := ?_) rfl (steady_val (by rfl) ?_) ?_
                      rotate_left
                      · intro w hSw
                        (try dsimp only at hSw)
                        go_simp
                        with_reducible rfl
                      (try simp only [Act.put, List.setIfInBounds_toArray, List.set_cons_zero, List.set_cons_succ])
                      refine seqU_step (v := ?_) rfl (steady_val (by rfl) ?_) ?_
                      rotate_left
                      · intro w hSw
                        (try dsimp only at hSw)
                        go_simp
                        with_reducible rfl
                      (try simp only [Act.put, List.setIfInBounds_toArray, List.set_cons_zero, List.set_cons_succ])
                      refine seqU_step (v := ?_) rfl (steady_val (by rfl) ?_) ?_
                      rotate_left
                      · intro w hSw
                        (try dsimp only at hSw)
                        go_simp
                        with_reducible rfl
                      (try simp only [Act.put, List.setIfInBounds_toArray, List.set_cons_zero, List.set_cons_succ])
                      refine seqU_step (v := ?_) rfl (steady_val (by rfl) ?_) ?_
                      rotate_left
                      · intro w hSw
                        (try dsimp only at hSw)
                        go_simp
                        with_reducible rfl
                      (try simp only [Act.put, List.setIfInBounds_toArray, List.set_cons_zero, List.set_cons_succ])
                      refine seqU_step (v := ?_) rfl (steady_val (by rfl) ?_) ?_
                      rotate_left
                      · intro w hSw
                        (try dsimp only at hSw)
                        go_simp
                        with_reducible rfl
                      (try simp only [Act.put, List.setIfInBounds_toArray, List.set_cons_zero, List.set_cons_succ])
                      refine seqU_step (v := ?_) rfl (steady_val (by rfl) ?_) ?_
                      rotate_left
                      · intro w hSw
                        (try dsimp only at hSw)
                        go_simp
                        with_reducible rfl
                      (try simp only [Act.put, List.setIfInBounds_toArray, List.set_cons_zero, List.set_cons_succ])
                      refine seqU_step (v := ?_) rfl (steady_val (by rfl) ?_) ?_
                      rotate_left
                      · intro w hSw
                        (try dsimp only at hSw)
                        go_simp
                        with_reducible rfl
                      (try simp only [Act.put, List.setIfInBounds_toArray, List.set_cons_zero, List.set_cons_succ])
                      refine seqU_step (v := ?_) rfl (steady_val (by rfl) ?_) ?_
                      rotate_left
                      · intro w hSw
                        (try dsimp only at hSw)
                        go_simp
                        with_reducible rfl
                      (try simp only [Act.put, List.setIfInBounds_toArray, List.set_cons_zero, List.set_cons_succ])
                      refine seqU_step (v := ?_) rfl (steady_val (by rfl) ?_) ?_
                      rotate_left
                      · intro w hSw
                        (try dsimp only at hSw)
                        go_simp
                        with_reducible rfl
                      (try simp only [Act.put, List.setIfInBounds_toArray, List.set_cons_zero, List.set_cons_succ])
                      refine seqU_step (v := ?_) rfl (steady_val (by rfl) ?_) ?_
                      rotate_left
                      · intro w hSw
                        (try dsimp only at hSw)
                        go_simp
                        with_reducible rfl
                      (try simp only [Act.put, List.setIfInBounds_toArray, List.set_cons_zero, List.set_cons_succ])
                      refine seqU_step (v := ?_) rfl (steady_val (by rfl) ?_) ?_
                      rotate_left
                      · intro w hSw
                        (try dsimp only at hSw)
                        go_simp
                        with_reducible rfl
                      (try simp only [Act.put, List.setIfInBounds_toArray, List.set_cons_zero, List.set_cons_succ])
                      refine seqU_step (v := ?_) rfl (steady_val (by rfl) ?_) ?_
                      rotate_left
                      · intro w hSw
                        (try dsimp only at hSw)
                        go_simp
                        with_reducible rfl
                      (try simp only [Act.put, List.setIfInBounds_toArray, List.set_cons_zero, List.set_cons_succ])
                      refine seqU_step (v := ?_) rfl (steady_val (by rfl) ?_) ?_
                      rotate_left
                      · intro w hSw
                        (try dsimp only at hSw)
                        go_simp
                        with_reducible rfl
                      (try simp only [Act.put, List.setIfInBounds_toArray, List.set_cons_zero, List.set_cons_succ])
                      refine seqU_step (v := ?_) rfl (steady_val (by rfl) ?_) ?_
                      rotate_left
                      · intro w hSw
                        (try dsimp only at hSw)
                        go_simp
                        with_reducible rfl
                      (try simp only [Act.put, List.setIfInBounds_toArray, List.set_cons_zero, List.set_cons_succ])
                      refine seqU_step (v := ?_) rfl (steady_val (by rfl) ?_) ?_
                      rotate_left
                      · intro w hSw
                        (try dsimp only at hSw)
                        go_simp
                        with_reducible rfl
                      (try simp only [Act.put, List.setIfInBounds_toArray, List.set_cons_zero, List.set_cons_succ])
                      refine seqU_step (v := ?_) rfl (steady_val (by rfl) ?_) ?_
                      rotate_left
                      · intro w hSw
                        (try dsimp only at hSw)
                        go_simp
                        with_reducible rfl
                      (try simp only [Act.put, List.setIfInBounds_toArray, List.set_cons_zero, List.set_cons_succ])
                      refine seqU_step (v := ?_) rfl (steady_val (by rfl) ?_) ?_
                      rotate_left
                      · intro w hSw
                        (try dsimp only at hSw)
                        go_simp
                        with_reducible rfl
                      (try simp only [Act.put, List.setIfInBounds_toArray, List.set_cons_zero, List.set_cons_succ])
                      refine seqU_step (v := ?_) rfl (steady_val (by rfl) ?_) ?_
                      rotate_left
                      · intro w hSw
                        (try dsimp only at hSw)
                        go_simp
                        with_reducible rfl
                      (try simp only [Act.put, List.setIfInBounds_toArray, List.set_cons_zero, List.set_cons_succ])
                      refine seqU_step (v := ?_) rfl (steady_val (by rfl) ?_) ?_
                      rotate_left
                      · intro w hSw
                        (try dsimp only at hSw)
                        go_simp
                        with_reducible rfl
                      (try simp only [Act.put, List.setIfInBounds_toArray, List.set_cons_zero, List.set_cons_succ])
                      refine seqU_step (v := ?_) rfl (steady_val (by rfl) ?_) ?_
                      rotate_left
                      · intro w hSw
                        (try dsimp only at hSw)
                        go_simp
                        with_reducible rfl
                      (try simp only [Act.put, List.setIfInBounds_toArray, List.set_cons_zero, List.set_cons_succ])
                      refine seqU_step (v := ?_) rfl (steady_val (by rfl) ?_) ?_
                      rotate_left
                      · intro w hSw
                        (try dsimp only at hSw)
                        go_simp
                        with_reducible rfl
                      (try simp only [Act.put, List.setIfInBounds_toArray, List.set_cons_zero, List.set_cons_succ])
                      refine seqU_step (v := ?_) rfl (steady_val (by rfl) ?_) ?_
                      rotate_left
                      · intro w hSw
                        (try dsimp only at hSw)
                        go_simp
                        with_reducible rfl
                      (try simp only [Act.put, List.setIfInBounds_toArray, List.set_cons_zero, List.set_cons_succ])
                      refine seqU_step (v := ?_) rfl (steady_val (by rfl) ?_) ?_
                      rotate_left
                      · intro w hSw
                        (try dsimp only at hSw)
                        go_simp
                        with_reducible rfl
                      (try simp only [Act.put, List.setIfInBounds_toArray, List.set_cons_zero, List.set_cons_succ])
                      refine seqU_step (v := ?_) rfl (steady_val (by rfl) ?_) ?_
                      rotate_left
                      · intro w hSw
                        (try dsimp only at hSw)
                        go_simp
                        with_reducible rfl
                      (try simp only [Act.put, List.setIfInBounds_toArray, List.set_cons_zero, List.set_cons_succ])
                      refine seqU_step (v := ?_) rfl (steady_val (by rfl) ?_) ?_
                      rotate_left
                      · intro w hSw
                        (try dsimp only at hSw)
                        go_simp
                        with_reducible rfl
                      (try simp only [Act.put, List.setIfInBounds_toArray, List.set_cons_zero, List.set_cons_succ])
                      refine seqU_step (v := ?_) rfl (steady_val (by rfl) ?_) ?_
                      rotate_left
                      · intro w hSw
                        (try dsimp only at hSw)
                        go_simp
                        with_reducible rfl
                      (try simp only [Act.put, List.setIfInBounds_toArray, List.set_cons_zero, List.set_cons_succ])
                      refine seqU_step (v := ?_) rfl (steady_val (by rfl) ?_) ?_
                      rotate_left
                      · intro w hSw
                        (try dsimp only at hSw)
                        go_simp
                        with_reducible rfl
                      (try simp only [Act.put, List.setIfInBounds_toArray, List.set_cons_zero, List.set_cons_succ])
                      refine seqU_step (v := ?_) rfl (steady_val (by rfl) ?_) ?_
                      rotate_left
                      · intro w hSw
                        (try dsimp only at hSw)
                        go_simp
                        with_reducible rfl
                      (try simp only [Act.put, List.setIfInBounds_toArray, List.set_cons_zero, List.set_cons_succ])
                      refine seqU_step (v := ?_) rfl (steady_val (by rfl) ?_) ?_
                      rotate_left
                      · intro w hSw
                        (try dsimp only at hSw)
                        go_simp
                        with_reducible rfl
                      (try simp only [Act.put, List.setIfInBounds_toArray, List.set_cons_zero, List.set_cons_succ])
                      refine seqU_step (v := ?_) rfl (steady_val (by rfl) ?_) ?_
                      rotate_left
                      · intro w hSw
                        (try dsimp only at hSw)
                        go_simp
                        with_reducible rfl
                      (try simp only [Act.put, List.setIfInBounds_toArray, List.set_cons_zero, List.set_cons_succ])
                      refine seqU_step (v := undef) rfl (steady_not (by rfl)) ?_
                      (try simp only [Act.put, List.setIfInBounds_toArray, List.set_cons_zero, List.set_cons_succ])
                      refine seqU_step (v := undef) rfl (steady_not (by rfl)) ?_
                      (try simp only [Act.put, List.setIfInBounds_toArray, List.set_cons_zero, List.set_cons_succ])
                      refine seqU_step (v := undef) rfl (steady_not (by rfl)) ?_
                      (try simp only [Act.put, List.setIfInBounds_toArray, List.set_cons_zero, List.set_cons_succ])
                      refine seqU_step (v := undef) rfl (steady_not (by rfl)) ?_
                      (try simp only [Act.put, List.setIfInBounds_toArray, List.set_cons_zero, List.set_cons_succ])
                      refine seqU_step (v := undef) rfl (steady_not (by rfl)) ?_
                      (try simp only [Act.put, List.setIfInBounds_toArray, List.set_cons_zero, List.set_cons_succ])
                      refine seqU_step (v := undef) rfl (steady_not (by rfl)) ?_
                      (try simp only [Act.put, List.setIfInBounds_toArray, List.set_cons_zero, List.set_cons_succ])
                      refine seqU_step (v := undef) rfl (steady_not (by rfl)) ?_
                      (try simp only [Act.put, List.setIfInBounds_toArray, List.set_cons_zero, List.set_cons_succ])
                      refine seqU_step (v := undef) rfl (steady_not (by rfl)) ?_
                      (try simp only [Act.put, List.setIfInBounds_toArray, List.set_cons_zero, List.set_cons_succ])
                      refine seqU_step (v := undef) rfl (steady_not (by rfl)) ?_
                      (try simp only [Act.put, List.setIfInBounds_toArray, List.set_cons_zero, List.set_cons_succ])
                      refine seqU_step (v := undef) rfl (steady_not (by rfl)) ?_
                      (try simp only [Act.put, List.setIfInBounds_toArray, List.set_cons_zero, List.set_cons_succ])
                      refine seqU_step (v := undef) rfl (steady_not (by rfl)) ?_
                      (try simp only [Act.put, List.setIfInBounds_toArray, List.set_cons_zero, List.set_cons_succ])
                      refine seqU_step (v := ?_) rfl (steady_val (by rfl) ?_) ?_
                      rotate_left
                      · intro w hSw
                        (try dsimp only at hSw)
                        go_simp
                        with_reducible rfl
                      (try simp only [Act.put, List.setIfInBounds_toArray, List.set_cons_zero, List.set_cons_succ])
                      refine seqU_step (v := ?_) rfl (steady_val (by rfl) ?_) ?_
                      rotate_left
                      · intro w hSw
                        (try dsimp only at hSw)
                        go_simp
                        with_reducible rfl
                      (try simp only [Act.put, List.setIfInBounds_toArray, List.set_cons_zero, List.set_cons_succ])
                      refine seqU_done (fun w' hS => ?_)
                      have HBQ := Lib.hid (heldB8 hS)
                      clear hS
                      go_wp2_with (fail)
                      go_meet
                      case rel => exact ⟨true, rfl, Lib.hid (fun _ => HAPT.out), HBQ⟩
                · have HAPT := Lib.hid (show apart k a b k2 a2 b2 by unfold apart; omega)
                  have LKA := Lib.hid (fun w' => (by have q := linkd_any k a b x w'; rw [show decide (k ≤ 5) = true by simp; omega] at q; exact q : Calls Try.prog 21 #[.agg #[.int .i64 k, .int .i64 a, .int .i64 b, .float .f64 x]] w' fun e w2 => e = .returned (.bool true) ∧ Below w'.heap.size w' w2))
                  have LKB := Lib.hid (fun w' => (by have q := linkd_any k2 a2 b2 x2 w'; rw [show decide (k2 ≤ 5) = true by simp; omega] at q; exact q : Calls Try.prog 21 #[.agg #[.int .i64 k2, .int .i64 a2, .int .i64 b2, .float .f64 x2]] w' fun e w2 => e = .returned (.bool true) ∧ Below w'.heap.size w' w2))
                  have c1' : (a == a2) = true := by rw [beq_iff_eq]; exact c1
                  have c1'' : (a != a2) = false := by simp; exact c1
                  have c2' : (b == b2) = false := by rw [beq_eq_false_iff_ne]; exact c2
                  have c3' : (a == b2) = false := by rw [beq_eq_false_iff_ne]; exact c3
                  clear la lb c1 c2 c3 GG0
                  clear HAP HBP HL1 HL2 HN HL HWL HX HE1 HEI HPL HY1 HY2 HY3 HB1 GAT HB2 HZ1 HZ2 HZ3 HP1 HP2 HT HA1 HA2 HA3 HQ1 HQ2 HAB HC3 HC3d BX1 BX7 BX2 BX3 BXN BXW BXG HK33
                  as_aux_lemma =>
                    refine wp_region_seq (by kernel_rfl) (by as_aux_lemma => kernel_rfl) (fun w' => w'.cell? ⟨g2, 0, none⟩ = some (.int .i64 k) ∧ w'.cell? ⟨g2, 1, none⟩ = some (.int .i64 a) ∧ w'.cell? ⟨g2, 2, none⟩ = some (.int .i64 b) ∧ w'.cell? ⟨g2, 3, none⟩ = some (.float .f64 x) ∧ w'.cell? ⟨g3, 0, none⟩ = some (.int .i64 k2) ∧ w'.cell? ⟨g3, 1, none⟩ = some (.int .i64 a2) ∧ w'.cell? ⟨g3, 2, none⟩ = some (.int .i64 b2) ∧ w'.cell? ⟨g3, 3, none⟩ = some (.float .f64 x2) ∧ Below wt.heap.size wt w') HS8.out ?_
                    refine seqU_step (v := ?_) rfl (steady_val (by rfl) ?_) ?_
                    rotate_left
                    · intro w hSw
                      (try dsimp only at hSw)
                      go_simp
                      with_reducible rfl
                    (try simp only [Act.put, List.setIfInBounds_toArray, List.set_cons_zero, List.set_cons_succ])
                    refine seqU_step (v := ?_) rfl (steady_val (by rfl) ?_) ?_
                    rotate_left
                    · intro w hSw
                      (try dsimp only at hSw)
                      go_simp
                      with_reducible rfl
                    (try simp only [Act.put, List.setIfInBounds_toArray, List.set_cons_zero, List.set_cons_succ])
                    refine seqU_step (v := .bool true) rfl (steady_call (f := 21) (by rfl) ?_ (fun w hS => (LKA.out w).mono (fun e w' h => ⟨h.1, held_keep8 hS h.2⟩))) ?_
                    · intro w hSw
                      go_simp
                    (try simp only [Act.put, List.setIfInBounds_toArray, List.set_cons_zero, List.set_cons_succ])
                    refine seqU_step (v := ?_) rfl (steady_val (by rfl) ?_) ?_
                    rotate_left
                    · intro w hSw
                      (try dsimp only at hSw)
                      go_simp
                      with_reducible rfl
                    (try simp only [Act.put, List.setIfInBounds_toArray, List.set_cons_zero, List.set_cons_succ])
                    refine seqU_step (v := ?_) rfl (steady_val (by rfl) ?_) ?_
                    rotate_left
                    · intro w hSw
                      (try dsimp only at hSw)
                      go_simp
                      with_reducible rfl
                    (try simp only [Act.put, List.setIfInBounds_toArray, List.set_cons_zero, List.set_cons_succ])
                    refine seqU_step (v := .bool true) rfl (steady_call (f := 21) (by rfl) ?_ (fun w hS => (LKB.out w).mono (fun e w' h => ⟨h.1, held_keep8 hS h.2⟩))) ?_
                    · intro w hSw
                      go_simp
                    (try simp only [Act.put, List.setIfInBounds_toArray, List.set_cons_zero, List.set_cons_succ])
                    refine seqU_step (v := ?_) rfl (steady_val (by rfl) ?_) ?_
                    rotate_left
                    · intro w hSw
                      (try dsimp only at hSw)
                      go_simp
                      with_reducible rfl
                    (try simp only [Act.put, List.setIfInBounds_toArray, List.set_cons_zero, List.set_cons_succ])
                    refine seqU_step (v := ?_) rfl (steady_val (by rfl) ?_) ?_
                    rotate_left
                    · intro w hSw
                      (try dsimp only at hSw)
                      go_simp
                      with_reducible rfl
                    (try simp only [Act.put, List.setIfInBounds_toArray, List.set_cons_zero, List.set_cons_succ])
                    refine seqU_step (v := ?_) rfl (steady_val (by rfl) ?_) ?_
                    rotate_left
                    · intro w hSw
                      (try dsimp only at hSw)
                      go_simp
                      with_reducible rfl
                    (try simp only [Act.put, List.setIfInBounds_toArray, List.set_cons_zero, List.set_cons_succ])
                    refine seqU_step (v := ?_) rfl (steady_val (by rfl) ?_) ?_
                    rotate_left
                    · intro w hSw
                      (try dsimp only at hSw)
                      go_simp
                      with_reducible rfl
                    (try simp only [Act.put, List.setIfInBounds_toArray, List.set_cons_zero, List.set_cons_succ])
                    refine seqU_step (v := .bool true) rfl (steady_call (f := 21) (by rfl) ?_ (fun w hS => (LKA.out w).mono (fun e w' h => ⟨h.1, held_keep8 hS h.2⟩))) ?_
                    · intro w hSw
                      go_simp
                    (try simp only [Act.put, List.setIfInBounds_toArray, List.set_cons_zero, List.set_cons_succ])
                    refine seqU_step (v := ?_) rfl (steady_val (by rfl) ?_) ?_
                    rotate_left
                    · intro w hSw
                      (try dsimp only at hSw)
                      go_simp
                      with_reducible rfl
                    (try simp only [Act.put, List.setIfInBounds_toArray, List.set_cons_zero, List.set_cons_succ])
                    refine seqU_step (v := ?_) rfl (steady_val (by rfl) ?_) ?_
                    rotate_left
                    · intro w hSw
                      (try dsimp only at hSw)
                      go_simp
                      with_reducible rfl
                    (try simp only [Act.put, List.setIfInBounds_toArray, List.set_cons_zero, List.set_cons_succ])
                    refine seqU_step (v := ?_) rfl (steady_val (by rfl) ?_) ?_
                    rotate_left
                    · intro w hSw
                      (try dsimp only at hSw)
                      go_simp
                      with_reducible rfl
                    (try simp only [Act.put, List.setIfInBounds_toArray, List.set_cons_zero, List.set_cons_succ])
                    refine seqU_step (v := ?_) rfl (steady_val (by rfl) ?_) ?_
                    rotate_left
                    · intro w hSw
                      (try dsimp only at hSw)
                      go_simp
                      with_reducible rfl
                    (try simp only [Act.put, List.setIfInBounds_toArray, List.set_cons_zero, List.set_cons_succ])
                    refine seqU_step (v := ?_) rfl (steady_val (by rfl) ?_) ?_
                    rotate_left
                    · intro w hSw
                      (try dsimp only at hSw)
                      go_simp
                      with_reducible rfl
                    (try simp only [Act.put, List.setIfInBounds_toArray, List.set_cons_zero, List.set_cons_succ])
                    refine seqU_step (v := ?_) rfl (steady_val (by rfl) ?_) ?_
                    rotate_left
                    · intro w hSw
                      (try dsimp only at hSw)
                      go_simp
                      with_reducible rfl
                    (try simp only [Act.put, List.setIfInBounds_toArray, List.set_cons_zero, List.set_cons_succ])
                    refine seqU_step (v := ?_) rfl (steady_val (by rfl) ?_) ?_
                    rotate_left
                    · intro w hSw
                      (try dsimp only at hSw)
                      go_simp
                      with_reducible rfl
                    (try simp only [Act.put, List.setIfInBounds_toArray, List.set_cons_zero, List.set_cons_succ])
                    refine seqU_step (v := ?_) rfl (steady_val (by rfl) ?_) ?_
                    rotate_left
                    · intro w hSw
                      (try dsimp only at hSw)
                      go_simp
                      with_reducible rfl
                    (try simp only [Act.put, List.setIfInBounds_toArray, List.set_cons_zero, List.set_cons_succ])
                    refine seqU_step (v := ?_) rfl (steady_val (by rfl) ?_) ?_
                    rotate_left
                    · intro w hSw
                      (try dsimp only at hSw)
                      go_simp
                      with_reducible rfl
                    (try simp only [Act.put, List.setIfInBounds_toArray, List.set_cons_zero, List.set_cons_succ])
                    refine seqU_step (v := ?_) rfl (steady_val (by rfl) ?_) ?_
                    rotate_left
                    · intro w hSw
                      (try dsimp only at hSw)
                      go_simp
                      with_reducible rfl
                    (try simp only [Act.put, List.setIfInBounds_toArray, List.set_cons_zero, List.set_cons_succ])
                    refine seqU_step (v := ?_) rfl (steady_val (by rfl) ?_) ?_
                    rotate_left
                    · intro w hSw
                      (try dsimp only at hSw)
                      go_simp
                      with_reducible rfl
                    (try simp only [Act.put, List.setIfInBounds_toArray, List.set_cons_zero, List.set_cons_succ])
                    refine seqU_step (v := ?_) rfl (steady_val (by rfl) ?_) ?_
                    rotate_left
                    · intro w hSw
                      (try dsimp only at hSw)
                      go_simp
                      with_reducible rfl
                    (try simp only [Act.put, List.setIfInBounds_toArray, List.set_cons_zero, List.set_cons_succ])
                    refine seqU_step (v := ?_) rfl (steady_val (by rfl) ?_) ?_
                    rotate_left
                    · intro w hSw
                      (try dsimp only at hSw)
                      go_simp
                      with_reducible rfl
                    (try simp only [Act.put, List.setIfInBounds_toArray, List.set_cons_zero, List.set_cons_succ])
                    refine seqU_step (v := ?_) rfl (steady_val (by rfl) ?_) ?_
                    rotate_left
                    · intro w hSw
                      (try dsimp only at hSw)
                      go_simp
                      with_reducible rfl
                    (try simp only [Act.put, List.setIfInBounds_toArray, List.set_cons_zero, List.set_cons_succ])
                    refine seqU_step (v := ?_) rfl (steady_val (by rfl) ?_) ?_
                    rotate_left
                    · intro w hSw
                      (try dsimp only at hSw)
                      go_simp
                      with_reducible rfl
                    (try simp only [Act.put, List.setIfInBounds_toArray, List.set_cons_zero, List.set_cons_succ])
                    refine seqU_step (v := ?_) rfl (steady_val (by rfl) ?_) ?_
                    rotate_left
                    · intro w hSw
                      (try dsimp only at hSw)
                      go_simp
                      with_reducible rfl
                    (try simp only [Act.put, List.setIfInBounds_toArray, List.set_cons_zero, List.set_cons_succ])
                    refine seqU_step (v := ?_) rfl (steady_val (by rfl) ?_) ?_
                    rotate_left
                    · intro w hSw
                      (try dsimp only at hSw)
                      go_simp
                      with_reducible rfl
                    (try simp only [Act.put, List.setIfInBounds_toArray, List.set_cons_zero, List.set_cons_succ])
                    refine seqU_step (v := ?_) rfl (steady_val (by rfl) ?_) ?_
                    rotate_left
                    · intro w hSw
                      (try dsimp only at hSw)
                      go_simp
                      with_reducible rfl
                    (try simp only [Act.put, List.setIfInBounds_toArray, List.set_cons_zero, List.set_cons_succ])
                    refine seqU_step (v := ?_) rfl (steady_val (by rfl) ?_) ?_
                    rotate_left
                    · intro w hSw
                      (try dsimp only at hSw)
                      go_simp
                      with_reducible rfl
                    (try simp only [Act.put, List.setIfInBounds_toArray, List.set_cons_zero, List.set_cons_succ])
                    refine seqU_step (v := ?_) rfl (steady_val (by rfl) ?_) ?_
                    rotate_left
                    · intro w hSw
                      (try dsimp only at hSw)
                      go_simp
                      with_reducible rfl
                    (try simp only [Act.put, List.setIfInBounds_toArray, List.set_cons_zero, List.set_cons_succ])
                    refine seqU_step (v := undef) rfl (steady_not (by rfl)) ?_
                    (try simp only [Act.put, List.setIfInBounds_toArray, List.set_cons_zero, List.set_cons_succ])
                    refine seqU_step (v := undef) rfl (steady_not (by rfl)) ?_
                    (try simp only [Act.put, List.setIfInBounds_toArray, List.set_cons_zero, List.set_cons_succ])
                    refine seqU_step (v := undef) rfl (steady_not (by rfl)) ?_
                    (try simp only [Act.put, List.setIfInBounds_toArray, List.set_cons_zero, List.set_cons_succ])
                    refine seqU_step (v := undef) rfl (steady_not (by rfl)) ?_
                    (try simp only [Act.put, List.setIfInBounds_toArray, List.set_cons_zero, List.set_cons_succ])
                    refine seqU_step (v := undef) rfl (steady_not (by rfl)) ?_
                    (try simp only [Act.put, List.setIfInBounds_toArray, List.set_cons_zero, List.set_cons_succ])
                    refine seqU_step (v := ?_) rfl (steady_val (by rfl) ?_) ?_
                    rotate_left
                    · intro w hSw
                      (try dsimp only at hSw)
                      go_simp
                      with_reducible rfl
                    (try simp only [Act.put, List.setIfInBounds_toArray, List.set_cons_zero, List.set_cons_succ])
                    refine seqU_step (v := ?_) rfl (steady_val (by rfl) ?_) ?_
                    rotate_left
                    · intro w hSw
                      (try dsimp only at hSw)
                      go_simp
                      with_reducible rfl
                    (try simp only [Act.put, List.setIfInBounds_toArray, List.set_cons_zero, List.set_cons_succ])
                    refine seqU_step (v := ?_) rfl (steady_val (by rfl) ?_) ?_
                    rotate_left
                    · intro w hSw
                      (try dsimp only at hSw)
                      go_simp
                      with_reducible rfl
                    (try simp only [Act.put, List.setIfInBounds_toArray, List.set_cons_zero, List.set_cons_succ])
                    refine seqU_step (v := ?_) rfl (steady_val (by rfl) ?_) ?_
                    rotate_left
                    · intro w hSw
                      (try dsimp only at hSw)
                      go_simp
                      with_reducible rfl
                    (try simp only [Act.put, List.setIfInBounds_toArray, List.set_cons_zero, List.set_cons_succ])
                    refine seqU_step (v := ?_) rfl (steady_val (by rfl) ?_) ?_
                    rotate_left
                    · intro w hSw
                      (try dsimp only at hSw)
                      go_simp
                      with_reducible rfl
                    (try simp only [Act.put, List.setIfInBounds_toArray, List.set_cons_zero, List.set_cons_succ])
                    refine seqU_step (v := ?_) rfl (steady_val (by rfl) ?_) ?_
                    rotate_left
                    · intro w hSw
                      (try dsimp only at hSw)
                      go_simp
                      with_reducible rfl
                    (try simp only [Act.put, List.setIfInBounds_toArray, List.set_cons_zero, List.set_cons_succ])
                    refine seqU_step (v := undef) rfl (steady_not (by rfl)) ?_
                    (try simp only [Act.put, List.setIfInBounds_toArray, List.set_cons_zero, List.set_cons_succ])
                    refine seqU_step (v := undef) rfl (steady_not (by rfl)) ?_
                    (try simp only [Act.put, List.setIfInBounds_toArray, List.set_cons_zero, List.set_cons_succ])
                    refine seqU_step (v := undef) rfl (steady_not (by rfl)) ?_
                    (try simp only [Act.put, List.setIfInBounds_toArray, List.set_cons_zero, List.set_cons_succ])
                    refine seqU_step (v := undef) rfl (steady_not (by rfl)) ?_
                    (try simp only [Act.put, List.setIfInBounds_toArray, List.set_cons_zero, List.set_cons_succ])
                    refine seqU_step (v := undef) rfl (steady_not (by rfl)) ?_
                    (try simp only [Act.put, List.setIfInBounds_toArray, List.set_cons_zero, List.set_cons_succ])
                    refine seqU_step (v := undef) rfl (steady_not (by rfl)) ?_
                    (try simp only [Act.put, List.setIfInBounds_toArray, List.set_cons_zero, List.set_cons_succ])
                    refine seqU_step (v := undef) rfl (steady_not (by rfl)) ?_
                    (try simp only [Act.put, List.setIfInBounds_toArray, List.set_cons_zero, List.set_cons_succ])
                    refine seqU_step (v := undef) rfl (steady_not (by rfl)) ?_
                    (try simp only [Act.put, List.setIfInBounds_toArray, List.set_cons_zero, List.set_cons_succ])
                    refine seqU_step (v := undef) rfl (steady_not (by rfl)) ?_
                    (try simp only [Act.put, List.setIfInBounds_toArray, List.set_cons_zero, List.set_cons_succ])
                    refine seqU_step (v := undef) rfl (steady_not (by rfl)) ?_
                    (try simp only [Act.put, List.setIfInBounds_toArray, List.set_cons_zero, List.set_cons_succ])
                    refine seqU_step (v := undef) rfl (steady_not (by rfl)) ?_
                    (try simp only [Act.put, List.setIfInBounds_toArray, List.set_cons_zero, List.set_cons_succ])
                    refine seqU_step (v := ?_) rfl (steady_val (by rfl) ?_) ?_
                    rotate_left
                    · intro w hSw
                      (try dsimp only at hSw)
                      go_simp
                      with_reducible rfl
                    (try simp only [Act.put, List.setIfInBounds_toArray, List.set_cons_zero, List.set_cons_succ])
                    refine seqU_step (v := ?_) rfl (steady_val (by rfl) ?_) ?_
                    rotate_left
                    · intro w hSw
                      (try dsimp only at hSw)
                      go_simp
                      with_reducible rfl
                    (try simp only [Act.put, List.setIfInBounds_toArray, List.set_cons_zero, List.set_cons_succ])
                    refine seqU_done (fun w' hS => ?_)
                    have HBQ := Lib.hid (heldB8 hS)
                    clear hS
                    go_wp2_with (fail)
                    go_meet
                    case rel => exact ⟨true, rfl, Lib.hid (fun _ => HAPT.out), HBQ⟩
            · by_cases c3 : a = b2
              · by_cases c4 : b = a2
                · have LKA := Lib.hid (fun w' => (by have q := linkd_any k a b x w'; rw [show decide (k ≤ 5) = true by simp; omega] at q; exact q : Calls Try.prog 21 #[.agg #[.int .i64 k, .int .i64 a, .int .i64 b, .float .f64 x]] w' fun e w2 => e = .returned (.bool true) ∧ Below w'.heap.size w' w2))
                  have LKB := Lib.hid (fun w' => (by have q := linkd_any k2 a2 b2 x2 w'; rw [show decide (k2 ≤ 5) = true by simp; omega] at q; exact q : Calls Try.prog 21 #[.agg #[.int .i64 k2, .int .i64 a2, .int .i64 b2, .float .f64 x2]] w' fun e w2 => e = .returned (.bool true) ∧ Below w'.heap.size w' w2))
                  have c1' : (a == a2) = false := by rw [beq_eq_false_iff_ne]; exact c1
                  have c1'' : (a != a2) = true := by simp; exact c1
                  have c3' : (a == b2) = true := by rw [beq_iff_eq]; exact c3
                  have c4' : (b == a2) = true := by rw [beq_iff_eq]; exact c4
                  clear la lb c1 c3 c4 GG0
                  clear HAP HBP HL1 HL2 HN HL HWL HX HE1 HEI HPL HY1 HY2 HY3 HB1 GAT HB2 HZ1 HZ2 HZ3 HP1 HP2 HT HA1 HA2 HA3 HQ1 HQ2 HAB HC3 HC3d BX1 BX7 BX2 BX3 BXN BXW BXG HK33
                  as_aux_lemma =>
                    refine wp_region_seq (by kernel_rfl) (by as_aux_lemma => kernel_rfl) (fun w' => w'.cell? ⟨g2, 0, none⟩ = some (.int .i64 k) ∧ w'.cell? ⟨g2, 1, none⟩ = some (.int .i64 a) ∧ w'.cell? ⟨g2, 2, none⟩ = some (.int .i64 b) ∧ w'.cell? ⟨g2, 3, none⟩ = some (.float .f64 x) ∧ w'.cell? ⟨g3, 0, none⟩ = some (.int .i64 k2) ∧ w'.cell? ⟨g3, 1, none⟩ = some (.int .i64 a2) ∧ w'.cell? ⟨g3, 2, none⟩ = some (.int .i64 b2) ∧ w'.cell? ⟨g3, 3, none⟩ = some (.float .f64 x2) ∧ Below wt.heap.size wt w') HS8.out ?_
                    refine seqU_step (v := ?_) rfl (steady_val (by rfl) ?_) ?_
                    rotate_left
                    · intro w hSw
                      (try dsimp only at hSw)
                      go_simp
                      with_reducible rfl
                    (try simp only [Act.put, List.setIfInBounds_toArray, List.set_cons_zero, List.set_cons_succ])
                    refine seqU_step (v := ?_) rfl (steady_val (by rfl) ?_) ?_
                    rotate_left
                    · intro w hSw
                      (try dsimp only at hSw)
                      go_simp
                      with_reducible rfl
                    (try simp only [Act.put, List.setIfInBounds_toArray, List.set_cons_zero, List.set_cons_succ])
                    refine seqU_step (v := .bool true) rfl (steady_call (f := 21) (by rfl) ?_ (fun w hS => (LKA.out w).mono (fun e w' h => ⟨h.1, held_keep8 hS h.2⟩))) ?_
                    · intro w hSw
                      go_simp
                    (try simp only [Act.put, List.setIfInBounds_toArray, List.set_cons_zero, List.set_cons_succ])
                    refine seqU_step (v := ?_) rfl (steady_val (by rfl) ?_) ?_
                    rotate_left
                    · intro w hSw
                      (try dsimp only at hSw)
                      go_simp
                      with_reducible rfl
                    (try simp only [Act.put, List.setIfInBounds_toArray, List.set_cons_zero, List.set_cons_succ])
                    refine seqU_step (v := ?_) rfl (steady_val (by rfl) ?_) ?_
                    rotate_left
                    · intro w hSw
                      (try dsimp only at hSw)
                      go_simp
                      with_reducible rfl
                    (try simp only [Act.put, List.setIfInBounds_toArray, List.set_cons_zero, List.set_cons_succ])
                    refine seqU_step (v := .bool true) rfl (steady_call (f := 21) (by rfl) ?_ (fun w hS => (LKB.out w).mono (fun e w' h => ⟨h.1, held_keep8 hS h.2⟩))) ?_
                    · intro w hSw
                      go_simp
                    (try simp only [Act.put, List.setIfInBounds_toArray, List.set_cons_zero, List.set_cons_succ])
                    refine seqU_step (v := ?_) rfl (steady_val (by rfl) ?_) ?_
                    rotate_left
                    · intro w hSw
                      (try dsimp only at hSw)
                      go_simp
                      with_reducible rfl
                    (try simp only [Act.put, List.setIfInBounds_toArray, List.set_cons_zero, List.set_cons_succ])
                    refine seqU_step (v := ?_) rfl (steady_val (by rfl) ?_) ?_
                    rotate_left
                    · intro w hSw
                      (try dsimp only at hSw)
                      go_simp
                      with_reducible rfl
                    (try simp only [Act.put, List.setIfInBounds_toArray, List.set_cons_zero, List.set_cons_succ])
                    refine seqU_step (v := ?_) rfl (steady_val (by rfl) ?_) ?_
                    rotate_left
                    · intro w hSw
                      (try dsimp only at hSw)
                      go_simp
                      with_reducible rfl
                    (try simp only [Act.put, List.setIfInBounds_toArray, List.set_cons_zero, List.set_cons_succ])
                    refine seqU_step (v := ?_) rfl (steady_val (by rfl) ?_) ?_
                    rotate_left
                    · intro w hSw
                      (try dsimp only at hSw)
                      go_simp
                      with_reducible rfl
                    (try simp only [Act.put, List.setIfInBounds_toArray, List.set_cons_zero, List.set_cons_succ])
                    refine seqU_step (v := .bool true) rfl (steady_call (f := 21) (by rfl) ?_ (fun w hS => (LKA.out w).mono (fun e w' h => ⟨h.1, held_keep8 hS h.2⟩))) ?_
                    · intro w hSw
                      go_simp
                    (try simp only [Act.put, List.setIfInBounds_toArray, List.set_cons_zero, List.set_cons_succ])
                    refine seqU_step (v := ?_) rfl (steady_val (by rfl) ?_) ?_
                    rotate_left
                    · intro w hSw
                      (try dsimp only at hSw)
                      go_simp
                      with_reducible rfl
                    (try simp only [Act.put, List.setIfInBounds_toArray, List.set_cons_zero, List.set_cons_succ])
                    refine seqU_step (v := ?_) rfl (steady_val (by rfl) ?_) ?_
                    rotate_left
                    · intro w hSw
                      (try dsimp only at hSw)
                      go_simp
                      with_reducible rfl
                    (try simp only [Act.put, List.setIfInBounds_toArray, List.set_cons_zero, List.set_cons_succ])
                    refine seqU_step (v := ?_) rfl (steady_val (by rfl) ?_) ?_
                    rotate_left
                    · intro w hSw
                      (try dsimp only at hSw)
                      go_simp
                      with_reducible rfl
                    (try simp only [Act.put, List.setIfInBounds_toArray, List.set_cons_zero, List.set_cons_succ])
                    refine seqU_step (v := ?_) rfl (steady_val (by rfl) ?_) ?_
                    rotate_left
                    · intro w hSw
                      (try dsimp only at hSw)
                      go_simp
                      with_reducible rfl
                    (try simp only [Act.put, List.setIfInBounds_toArray, List.set_cons_zero, List.set_cons_succ])
                    refine seqU_step (v := ?_) rfl (steady_val (by rfl) ?_) ?_
                    rotate_left
                    · intro w hSw
                      (try dsimp only at hSw)
                      go_simp
                      with_reducible rfl
                    (try simp only [Act.put, List.setIfInBounds_toArray, List.set_cons_zero, List.set_cons_succ])
                    refine seqU_step (v := ?_) rfl (steady_val (by rfl) ?_) ?_
                    rotate_left
                    · intro w hSw
                      (try dsimp only at hSw)
                      go_simp
                      with_reducible rfl
                    (try simp only [Act.put, List.setIfInBounds_toArray, List.set_cons_zero, List.set_cons_succ])
                    refine seqU_step (v := ?_) rfl (steady_val (by rfl) ?_) ?_
                    rotate_left
                    · intro w hSw
                      (try dsimp only at hSw)
                      go_simp
                      with_reducible rfl
                    (try simp only [Act.put, List.setIfInBounds_toArray, List.set_cons_zero, List.set_cons_succ])
                    refine seqU_step (v := undef) rfl (steady_not (by rfl)) ?_
                    (try simp only [Act.put, List.setIfInBounds_toArray, List.set_cons_zero, List.set_cons_succ])
                    refine seqU_step (v := undef) rfl (steady_not (by rfl)) ?_
                    (try simp only [Act.put, List.setIfInBounds_toArray, List.set_cons_zero, List.set_cons_succ])
                    refine seqU_step (v := undef) rfl (steady_not (by rfl)) ?_
                    (try simp only [Act.put, List.setIfInBounds_toArray, List.set_cons_zero, List.set_cons_succ])
                    refine seqU_step (v := undef) rfl (steady_not (by rfl)) ?_
                    (try simp only [Act.put, List.setIfInBounds_toArray, List.set_cons_zero, List.set_cons_succ])
                    refine seqU_step (v := undef) rfl (steady_not (by rfl)) ?_
                    (try simp only [Act.put, List.setIfInBounds_toArray, List.set_cons_zero, List.set_cons_succ])
                    refine seqU_step (v := ?_) rfl (steady_val (by rfl) ?_) ?_
                    rotate_left
                    · intro w hSw
                      (try dsimp only at hSw)
                      go_simp
                      with_reducible rfl
                    (try simp only [Act.put, List.setIfInBounds_toArray, List.set_cons_zero, List.set_cons_succ])
                    refine seqU_step (v := ?_) rfl (steady_val (by rfl) ?_) ?_
                    rotate_left
                    · intro w hSw
                      (try dsimp only at hSw)
                      go_simp
                      with_reducible rfl
                    (try simp only [Act.put, List.setIfInBounds_toArray, List.set_cons_zero, List.set_cons_succ])
                    refine seqU_step (v := ?_) rfl (steady_val (by rfl) ?_) ?_
                    rotate_left
                    · intro w hSw
                      (try dsimp only at hSw)
                      go_simp
                      with_reducible rfl
                    (try simp only [Act.put, List.setIfInBounds_toArray, List.set_cons_zero, List.set_cons_succ])
                    refine seqU_step (v := ?_) rfl (steady_val (by rfl) ?_) ?_
                    rotate_left
                    · intro w hSw
                      (try dsimp only at hSw)
                      go_simp
                      with_reducible rfl
                    (try simp only [Act.put, List.setIfInBounds_toArray, List.set_cons_zero, List.set_cons_succ])
                    refine seqU_step (v := ?_) rfl (steady_val (by rfl) ?_) ?_
                    rotate_left
                    · intro w hSw
                      (try dsimp only at hSw)
                      go_simp
                      with_reducible rfl
                    (try simp only [Act.put, List.setIfInBounds_toArray, List.set_cons_zero, List.set_cons_succ])
                    refine seqU_step (v := ?_) rfl (steady_val (by rfl) ?_) ?_
                    rotate_left
                    · intro w hSw
                      (try dsimp only at hSw)
                      go_simp
                      with_reducible rfl
                    (try simp only [Act.put, List.setIfInBounds_toArray, List.set_cons_zero, List.set_cons_succ])
                    refine seqU_step (v := ?_) rfl (steady_val (by rfl) ?_) ?_
                    rotate_left
                    · intro w hSw
                      (try dsimp only at hSw)
                      go_simp
                      with_reducible rfl
                    (try simp only [Act.put, List.setIfInBounds_toArray, List.set_cons_zero, List.set_cons_succ])
                    refine seqU_step (v := ?_) rfl (steady_val (by rfl) ?_) ?_
                    rotate_left
                    · intro w hSw
                      (try dsimp only at hSw)
                      go_simp
                      with_reducible rfl
                    (try simp only [Act.put, List.setIfInBounds_toArray, List.set_cons_zero, List.set_cons_succ])
                    refine seqU_step (v := ?_) rfl (steady_val (by rfl) ?_) ?_
                    rotate_left
                    · intro w hSw
                      (try dsimp only at hSw)
                      go_simp
                      with_reducible rfl
                    (try simp only [Act.put, List.setIfInBounds_toArray, List.set_cons_zero, List.set_cons_succ])
                    refine seqU_step (v := ?_) rfl (steady_val (by rfl) ?_) ?_
                    rotate_left
                    · intro w hSw
                      (try dsimp only at hSw)
                      go_simp
                      with_reducible rfl
                    (try simp only [Act.put, List.setIfInBounds_toArray, List.set_cons_zero, List.set_cons_succ])
                    refine seqU_step (v := ?_) rfl (steady_val (by rfl) ?_) ?_
                    rotate_left
                    · intro w hSw
                      (try dsimp only at hSw)
                      go_simp
                      with_reducible rfl
                    (try simp only [Act.put, List.setIfInBounds_toArray, List.set_cons_zero, List.set_cons_succ])
                    refine seqU_step (v := ?_) rfl (steady_val (by rfl) ?_) ?_
                    rotate_left
                    · intro w hSw
                      (try dsimp only at hSw)
                      go_simp
                      with_reducible rfl
                    (try simp only [Act.put, List.setIfInBounds_toArray, List.set_cons_zero, List.set_cons_succ])
                    refine seqU_step (v := ?_) rfl (steady_val (by rfl) ?_) ?_
                    rotate_left
                    · intro w hSw
                      (try dsimp only at hSw)
                      go_simp
                      with_reducible rfl
                    (try simp only [Act.put, List.setIfInBounds_toArray, List.set_cons_zero, List.set_cons_succ])
                    refine seqU_step (v := ?_) rfl (steady_val (by rfl) ?_) ?_
                    rotate_left
                    · intro w hSw
                      (try dsimp only at hSw)
                      go_simp
                      with_reducible rfl
                    (try simp only [Act.put, List.setIfInBounds_toArray, List.set_cons_zero, List.set_cons_succ])
                    refine seqU_step (v := ?_) rfl (steady_val (by rfl) ?_) ?_
                    rotate_left
                    · intro w hSw
                      (try dsimp only at hSw)
                      go_simp
                      with_reducible rfl
                    (try simp only [Act.put, List.setIfInBounds_toArray, List.set_cons_zero, List.set_cons_succ])
                    refine seqU_step (v := ?_) rfl (steady_val (by rfl) ?_) ?_
                    rotate_left
                    · intro w hSw
                      (try dsimp only at hSw)
                      go_simp
                      with_reducible rfl
                    (try simp only [Act.put, List.setIfInBounds_toArray, List.set_cons_zero, List.set_cons_succ])
                    refine seqU_step (v := ?_) rfl (steady_val (by rfl) ?_) ?_
                    rotate_left
                    · intro w hSw
                      (try dsimp only at hSw)
                      go_simp
                      with_reducible rfl
                    (try simp only [Act.put, List.setIfInBounds_toArray, List.set_cons_zero, List.set_cons_succ])
                    refine seqU_step (v := ?_) rfl (steady_val (by rfl) ?_) ?_
                    rotate_left
                    · intro w hSw
                      (try dsimp only at hSw)
                      go_simp
                      with_reducible rfl
                    (try simp only [Act.put, List.setIfInBounds_toArray, List.set_cons_zero, List.set_cons_succ])
                    refine seqU_step (v := ?_) rfl (steady_val (by rfl) ?_) ?_
                    rotate_left
                    · intro w hSw
                      (try dsimp only at hSw)
                      go_simp
                      with_reducible rfl
                    (try simp only [Act.put, List.setIfInBounds_toArray, List.set_cons_zero, List.set_cons_succ])
                    refine seqU_step (v := ?_) rfl (steady_val (by rfl) ?_) ?_
                    rotate_left
                    · intro w hSw
                      (try dsimp only at hSw)
                      go_simp
                      with_reducible rfl
                    (try simp only [Act.put, List.setIfInBounds_toArray, List.set_cons_zero, List.set_cons_succ])
                    refine seqU_step (v := ?_) rfl (steady_val (by rfl) ?_) ?_
                    rotate_left
                    · intro w hSw
                      (try dsimp only at hSw)
                      go_simp
                      with_reducible rfl
                    (try simp only [Act.put, List.setIfInBounds_toArray, List.set_cons_zero, List.set_cons_succ])
                    refine seqU_step (v := .bool true) rfl (steady_call (f := 21) (by rfl) ?_ (fun w hS => (LKA.out w).mono (fun e w' h => ⟨h.1, held_keep8 hS h.2⟩))) ?_
                    · intro w hSw
                      go_simp
                    (try simp only [Act.put, List.setIfInBounds_toArray, List.set_cons_zero, List.set_cons_succ])
                    refine seqU_step (v := ?_) rfl (steady_val (by rfl) ?_) ?_
                    rotate_left
                    · intro w hSw
                      (try dsimp only at hSw)
                      go_simp
                      with_reducible rfl
                    (try simp only [Act.put, List.setIfInBounds_toArray, List.set_cons_zero, List.set_cons_succ])
                    refine seqU_step (v := ?_) rfl (steady_val (by rfl) ?_) ?_
                    rotate_left
                    · intro w hSw
                      (try dsimp only at hSw)
                      go_simp
                      with_reducible rfl
                    (try simp only [Act.put, List.setIfInBounds_toArray, List.set_cons_zero, List.set_cons_succ])
                    refine seqU_step (v := undef) rfl (steady_not (by rfl)) ?_
                    (try simp only [Act.put, List.setIfInBounds_toArray, List.set_cons_zero, List.set_cons_succ])
                    refine seqU_step (v := undef) rfl (steady_not (by rfl)) ?_
                    (try simp only [Act.put, List.setIfInBounds_toArray, List.set_cons_zero, List.set_cons_succ])
                    refine seqU_step (v := undef) rfl (steady_not (by rfl)) ?_
                    (try simp only [Act.put, List.setIfInBounds_toArray, List.set_cons_zero, List.set_cons_succ])
                    refine seqU_step (v := undef) rfl (steady_not (by rfl)) ?_
                    (try simp only [Act.put, List.setIfInBounds_toArray, List.set_cons_zero, List.set_cons_succ])
                    refine seqU_step (v := undef) rfl (steady_not (by rfl)) ?_
                    (try simp only [Act.put, List.setIfInBounds_toArray, List.set_cons_zero, List.set_cons_succ])
                    refine seqU_step (v := ?_) rfl (steady_val (by rfl) ?_) ?_
                    rotate_left
                    · intro w hSw
                      (try dsimp only at hSw)
                      go_simp
                      with_reducible rfl
                    (try simp only [Act.put, List.setIfInBounds_toArray, List.set_cons_zero, List.set_cons_succ])
                    refine seqU_step (v := ?_) rfl (steady_val (by rfl) ?_) ?_
                    rotate_left
                    · intro w hSw
                      (try dsimp only at hSw)
                      go_simp
                      with_reducible rfl
                    (try simp only [Act.put, List.setIfInBounds_toArray, List.set_cons_zero, List.set_cons_succ])
                    refine seqU_step (v := ?_) rfl (steady_val (by rfl) ?_) ?_
                    rotate_left
                    · intro w hSw
                      (try dsimp only at hSw)
                      go_simp
                      with_reducible rfl
                    (try simp only [Act.put, List.setIfInBounds_toArray, List.set_cons_zero, List.set_cons_succ])
                    refine seqU_done (fun w' hS => ?_)
                    have HBQ := Lib.hid (heldB8 hS)
                    clear hS
                    go_wp2_with (fail)
                    go_meet
                    case rel => exact ⟨false, rfl, Lib.hid (fun h => by cases h), HBQ⟩
                · have HAPT := Lib.hid (show apart k a b k2 a2 b2 by unfold apart; omega)
                  have LKA := Lib.hid (fun w' => (by have q := linkd_any k a b x w'; rw [show decide (k ≤ 5) = true by simp; omega] at q; exact q : Calls Try.prog 21 #[.agg #[.int .i64 k, .int .i64 a, .int .i64 b, .float .f64 x]] w' fun e w2 => e = .returned (.bool true) ∧ Below w'.heap.size w' w2))
                  have LKB := Lib.hid (fun w' => (by have q := linkd_any k2 a2 b2 x2 w'; rw [show decide (k2 ≤ 5) = true by simp; omega] at q; exact q : Calls Try.prog 21 #[.agg #[.int .i64 k2, .int .i64 a2, .int .i64 b2, .float .f64 x2]] w' fun e w2 => e = .returned (.bool true) ∧ Below w'.heap.size w' w2))
                  have c1' : (a == a2) = false := by rw [beq_eq_false_iff_ne]; exact c1
                  have c1'' : (a != a2) = true := by simp; exact c1
                  have c3' : (a == b2) = true := by rw [beq_iff_eq]; exact c3
                  have c4' : (b == a2) = false := by rw [beq_eq_false_iff_ne]; exact c4
                  clear la lb c1 c3 c4 GG0
                  clear HAP HBP HL1 HL2 HN HL HWL HX HE1 HEI HPL HY1 HY2 HY3 HB1 GAT HB2 HZ1 HZ2 HZ3 HP1 HP2 HT HA1 HA2 HA3 HQ1 HQ2 HAB HC3 HC3d BX1 BX7 BX2 BX3 BXN BXW BXG HK33
                  as_aux_lemma =>
                    refine wp_region_seq (by kernel_rfl) (by as_aux_lemma => kernel_rfl) (fun w' => w'.cell? ⟨g2, 0, none⟩ = some (.int .i64 k) ∧ w'.cell? ⟨g2, 1, none⟩ = some (.int .i64 a) ∧ w'.cell? ⟨g2, 2, none⟩ = some (.int .i64 b) ∧ w'.cell? ⟨g2, 3, none⟩ = some (.float .f64 x) ∧ w'.cell? ⟨g3, 0, none⟩ = some (.int .i64 k2) ∧ w'.cell? ⟨g3, 1, none⟩ = some (.int .i64 a2) ∧ w'.cell? ⟨g3, 2, none⟩ = some (.int .i64 b2) ∧ w'.cell? ⟨g3, 3, none⟩ = some (.float .f64 x2) ∧ Below wt.heap.size wt w') HS8.out ?_
                    refine seqU_step (v := ?_) rfl (steady_val (by rfl) ?_) ?_
                    rotate_left
                    · intro w hSw
                      (try dsimp only at hSw)
                      go_simp
                      with_reducible rfl
                    (try simp only [Act.put, List.setIfInBounds_toArray, List.set_cons_zero, List.set_cons_succ])
                    refine seqU_step (v := ?_) rfl (steady_val (by rfl) ?_) ?_
                    rotate_left
                    · intro w hSw
                      (try dsimp only at hSw)
                      go_simp
                      with_reducible rfl
                    (try simp only [Act.put, List.setIfInBounds_toArray, List.set_cons_zero, List.set_cons_succ])
                    refine seqU_step (v := .bool true) rfl (steady_call (f := 21) (by rfl) ?_ (fun w hS => (LKA.out w).mono (fun e w' h => ⟨h.1, held_keep8 hS h.2⟩))) ?_
                    · intro w hSw
                      go_simp
                    (try simp only [Act.put, List.setIfInBounds_toArray, List.set_cons_zero, List.set_cons_succ])
                    refine seqU_step (v := ?_) rfl (steady_val (by rfl) ?_) ?_
                    rotate_left
                    · intro w hSw
                      (try dsimp only at hSw)
                      go_simp
                      with_reducible rfl
                    (try simp only [Act.put, List.setIfInBounds_toArray, List.set_cons_zero, List.set_cons_succ])
                    refine seqU_step (v := ?_) rfl (steady_val (by rfl) ?_) ?_
                    rotate_left
                    · intro w hSw
                      (try dsimp only at hSw)
                      go_simp
                      with_reducible rfl
                    (try simp only [Act.put, List.setIfInBounds_toArray, List.set_cons_zero, List.set_cons_succ])
                    refine seqU_step (v := .bool true) rfl (steady_call (f := 21) (by rfl) ?_ (fun w hS => (LKB.out w).mono (fun e w' h => ⟨h.1, held_keep8 hS h.2⟩))) ?_
                    · intro w hSw
                      go_simp
                    (try simp only [Act.put, List.setIfInBounds_toArray, List.set_cons_zero, List.set_cons_succ])
                    refine seqU_step (v := ?_) rfl (steady_val (by rfl) ?_) ?_
                    rotate_left
                    · intro w hSw
                      (try dsimp only at hSw)
                      go_simp
                      with_reducible rfl
                    (try simp only [Act.put, List.setIfInBounds_toArray, List.set_cons_zero, List.set_cons_succ])
                    refine seqU_step (v := ?_) rfl (steady_val (by rfl) ?_) ?_
                    rotate_left
                    · intro w hSw
                      (try dsimp only at hSw)
                      go_simp
                      with_reducible rfl
                    (try simp only [Act.put, List.setIfInBounds_toArray, List.set_cons_zero, List.set_cons_succ])
                    refine seqU_step (v := ?_) rfl (steady_val (by rfl) ?_) ?_
                    rotate_left
                    · intro w hSw
                      (try dsimp only at hSw)
                      go_simp
                      with_reducible rfl
                    (try simp only [Act.put, List.setIfInBounds_toArray, List.set_cons_zero, List.set_cons_succ])
                    refine seqU_step (v := ?_) rfl (steady_val (by rfl) ?_) ?_
                    rotate_left
                    · intro w hSw
                      (try dsimp only at hSw)
                      go_simp
                      with_reducible rfl
                    (try simp only [Act.put, List.setIfInBounds_toArray, List.set_cons_zero, List.set_cons_succ])
                    refine seqU_step (v := .bool true) rfl (steady_call (f := 21) (by rfl) ?_ (fun w hS => (LKA.out w).mono (fun e w' h => ⟨h.1, held_keep8 hS h.2⟩))) ?_
                    · intro w hSw
                      go_simp
                    (try simp only [Act.put, List.setIfInBounds_toArray, List.set_cons_zero, List.set_cons_succ])
                    refine seqU_step (v := ?_) rfl (steady_val (by rfl) ?_) ?_
                    rotate_left
                    · intro w hSw
                      (try dsimp only at hSw)
                      go_simp
                      with_reducible rfl
                    (try simp only [Act.put, List.setIfInBounds_toArray, List.set_cons_zero, List.set_cons_succ])
                    refine seqU_step (v := ?_) rfl (steady_val (by rfl) ?_) ?_
                    rotate_left
                    · intro w hSw
                      (try dsimp only at hSw)
                      go_simp
                      with_reducible rfl
                    (try simp only [Act.put, List.setIfInBounds_toArray, List.set_cons_zero, List.set_cons_succ])
                    refine seqU_step (v := ?_) rfl (steady_val (by rfl) ?_) ?_
                    rotate_left
                    · intro w hSw
                      (try dsimp only at hSw)
                      go_simp
                      with_reducible rfl
                    (try simp only [Act.put, List.setIfInBounds_toArray, List.set_cons_zero, List.set_cons_succ])
                    refine seqU_step (v := ?_) rfl (steady_val (by rfl) ?_) ?_
                    rotate_left
                    · intro w hSw
                      (try dsimp only at hSw)
                      go_simp
                      with_reducible rfl
                    (try simp only [Act.put, List.setIfInBounds_toArray, List.set_cons_zero, List.set_cons_succ])
                    refine seqU_step (v := ?_) rfl (steady_val (by rfl) ?_) ?_
                    rotate_left
                    · intro w hSw
                      (try dsimp only at hSw)
                      go_simp
                      with_reducible rfl
                    (try simp only [Act.put, List.setIfInBounds_toArray, List.set_cons_zero, List.set_cons_succ])
                    refine seqU_step (v := ?_) rfl (steady_val (by rfl) ?_) ?_
                    rotate_left
                    · intro w hSw
                      (try dsimp only at hSw)
                      go_simp
                      with_reducible rfl
                    (try simp only [Act.put, List.setIfInBounds_toArray, List.set_cons_zero, List.set_cons_succ])
                    refine seqU_step (v := ?_) rfl (steady_val (by rfl) ?_) ?_
                    rotate_left
                    · intro w hSw
                      (try dsimp only at hSw)
                      go_simp
                      with_reducible rfl
                    (try simp only [Act.put, List.setIfInBounds_toArray, List.set_cons_zero, List.set_cons_succ])
                    refine seqU_step (v := undef) rfl (steady_not (by rfl)) ?_
                    (try simp only [Act.put, List.setIfInBounds_toArray, List.set_cons_zero, List.set_cons_succ])
                    refine seqU_step (v := undef) rfl (steady_not (by rfl)) ?_
                    (try simp only [Act.put, List.setIfInBounds_toArray, List.set_cons_zero, List.set_cons_succ])
                    refine seqU_step (v := undef) rfl (steady_not (by rfl)) ?_
                    (try simp only [Act.put, List.setIfInBounds_toArray, List.set_cons_zero, List.set_cons_succ])
                    refine seqU_step (v := undef) rfl (steady_not (by rfl)) ?_
                    (try simp only [Act.put, List.setIfInBounds_toArray, List.set_cons_zero, List.set_cons_succ])
                    refine seqU_step (v := undef) rfl (steady_not (by rfl)) ?_
                    (try simp only [Act.put, List.setIfInBounds_toArray, List.set_cons_zero, List.set_cons_succ])
                    refine seqU_step (v := ?_) rfl (steady_val (by rfl) ?_) ?_
                    rotate_left
                    · intro w hSw
                      (try dsimp only at hSw)
                      go_simp
                      with_reducible rfl
                    (try simp only [Act.put, List.setIfInBounds_toArray, List.set_cons_zero, List.set_cons_succ])
                    refine seqU_step (v := ?_) rfl (steady_val (by rfl) ?_) ?_
                    rotate_left
                    · intro w hSw
                      (try dsimp only at hSw)
                      go_simp
                      with_reducible rfl
                    (try simp only [Act.put, List.setIfInBounds_toArray, List.set_cons_zero, List.set_cons_succ])
                    refine seqU_step (v := ?_) rfl (steady_val (by rfl) ?_) ?_
                    rotate_left
                    · intro w hSw
                      (try dsimp only at hSw)
                      go_simp
                      with_reducible rfl
                    (try simp only [Act.put, List.setIfInBounds_toArray, List.set_cons_zero, List.set_cons_succ])
                    refine seqU_step (v := ?_) rfl (steady_val (by rfl) ?_) ?_
                    rotate_left
                    · intro w hSw
                      (try dsimp only at hSw)
                      go_simp
                      with_reducible rfl
                    (try simp only [Act.put, List.setIfInBounds_toArray, List.set_cons_zero, List.set_cons_succ])
                    refine seqU_step (v := ?_) rfl (steady_val (by rfl) ?_) ?_
                    rotate_left
                    · intro w hSw
                      (try dsimp only at hSw)
                      go_simp
                      with_reducible rfl
                    (try simp only [Act.put, List.setIfInBounds_toArray, List.set_cons_zero, List.set_cons_succ])
                    refine seqU_step (v := ?_) rfl (steady_val (by rfl) ?_) ?_
                    rotate_left
                    · intro w hSw
                      (try dsimp only at hSw)
                      go_simp
                      with_reducible rfl
                    (try simp only [Act.put, List.setIfInBounds_toArray, List.set_cons_zero, List.set_cons_succ])
                    refine seqU_step (v := ?_) rfl (steady_val (by rfl) ?_) ?_
                    rotate_left
                    · intro w hSw
                      (try dsimp only at hSw)
                      go_simp
                      with_reducible rfl
                    (try simp only [Act.put, List.setIfInBounds_toArray, List.set_cons_zero, List.set_cons_succ])
                    refine seqU_step (v := ?_) rfl (steady_val (by rfl) ?_) ?_
                    rotate_left
                    · intro w hSw
                      (try dsimp only at hSw)
                      go_simp
                      with_reducible rfl
                    (try simp only [Act.put, List.setIfInBounds_toArray, List.set_cons_zero, List.set_cons_succ])
                    refine seqU_step (v := ?_) rfl (steady_val (by rfl) ?_) ?_
                    rotate_left
                    · intro w hSw
                      (try dsimp only at hSw)
                      go_simp
                      with_reducible rfl
                    (try simp only [Act.put, List.setIfInBounds_toArray, List.set_cons_zero, List.set_cons_succ])
                    refine seqU_step (v := ?_) rfl (steady_val (by rfl) ?_) ?_
                    rotate_left
                    · intro w hSw
                      (try dsimp only at hSw)
                      go_simp
                      with_reducible rfl
                    (try simp only [Act.put, List.setIfInBounds_toArray, List.set_cons_zero, List.set_cons_succ])
                    refine seqU_step (v := ?_) rfl (steady_val (by rfl) ?_) ?_
                    rotate_left
                    · intro w hSw
                      (try dsimp only at hSw)
                      go_simp
                      with_reducible rfl
                    (try simp only [Act.put, List.setIfInBounds_toArray, List.set_cons_zero, List.set_cons_succ])
                    refine seqU_step (v := ?_) rfl (steady_val (by rfl) ?_) ?_
                    rotate_left
                    · intro w hSw
                      (try dsimp only at hSw)
                      go_simp
                      with_reducible rfl
                    (try simp only [Act.put, List.setIfInBounds_toArray, List.set_cons_zero, List.set_cons_succ])
                    refine seqU_step (v := ?_) rfl (steady_val (by rfl) ?_) ?_
                    rotate_left
                    · intro w hSw
                      (try dsimp only at hSw)
                      go_simp
                      with_reducible rfl
                    (try simp only [Act.put, List.setIfInBounds_toArray, List.set_cons_zero, List.set_cons_succ])
                    refine seqU_step (v := ?_) rfl (steady_val (by rfl) ?_) ?_
                    rotate_left
                    · intro w hSw
                      (try dsimp only at hSw)
                      go_simp
                      with_reducible rfl
                    (try simp only [Act.put, List.setIfInBounds_toArray, List.set_cons_zero, List.set_cons_succ])
                    refine seqU_step (v := ?_) rfl (steady_val (by rfl) ?_) ?_
                    rotate_left
                    · intro w hSw
                      (try dsimp only at hSw)
                      go_simp
                      with_reducible rfl
                    (try simp only [Act.put, List.setIfInBounds_toArray, List.set_cons_zero, List.set_cons_succ])
                    refine seqU_step (v := ?_) rfl (steady_val (by rfl) ?_) ?_
                    rotate_left
                    · intro w hSw
                      (try dsimp only at hSw)
                      go_simp
                      with_reducible rfl
                    (try simp only [Act.put, List.setIfInBounds_toArray, List.set_cons_zero, List.set_cons_succ])
                    refine seqU_step (v := ?_) rfl (steady_val (by rfl) ?_) ?_
                    rotate_left
                    · intro w hSw
                      (try dsimp only at hSw)
                      go_simp
                      with_reducible rfl
                    (try simp only [Act.put, List.setIfInBounds_toArray, List.set_cons_zero, List.set_cons_succ])
                    refine seqU_step (v := ?_) rfl (steady_val (by rfl) ?_) ?_
                    rotate_left
                    · intro w hSw
                      (try dsimp only at hSw)
                      go_simp
                      with_reducible rfl
                    (try simp only [Act.put, List.setIfInBounds_toArray, List.set_cons_zero, List.set_cons_succ])
                    refine seqU_step (v := ?_) rfl (steady_val (by rfl) ?_) ?_
                    rotate_left
                    · intro w hSw
                      (try dsimp only at hSw)
                      go_simp
                      with_reducible rfl
                    (try simp only [Act.put, List.setIfInBounds_toArray, List.set_cons_zero, List.set_cons_succ])
                    refine seqU_step (v := undef) rfl (steady_not (by rfl)) ?_
                    (try simp only [Act.put, List.setIfInBounds_toArray, List.set_cons_zero, List.set_cons_succ])
                    refine seqU_step (v := undef) rfl (steady_not (by rfl)) ?_
                    (try simp only [Act.put, List.setIfInBounds_toArray, List.set_cons_zero, List.set_cons_succ])
                    refine seqU_step (v := undef) rfl (steady_not (by rfl)) ?_
                    (try simp only [Act.put, List.setIfInBounds_toArray, List.set_cons_zero, List.set_cons_succ])
                    refine seqU_step (v := undef) rfl (steady_not (by rfl)) ?_
                    (try simp only [Act.put, List.setIfInBounds_toArray, List.set_cons_zero, List.set_cons_succ])
                    refine seqU_step (v := undef) rfl (steady_not (by rfl)) ?_
                    (try simp only [Act.put, List.setIfInBounds_toArray, List.set_cons_zero, List.set_cons_succ])
                    refine seqU_step (v := undef) rfl (steady_not (by rfl)) ?_
                    (try simp only [Act.put, List.setIfInBounds_toArray, List.set_cons_zero, List.set_cons_succ])
                    refine seqU_step (v := undef) rfl (steady_not (by rfl)) ?_
                    (try simp only [Act.put, List.setIfInBounds_toArray, List.set_cons_zero, List.set_cons_succ])
                    refine seqU_step (v := undef) rfl (steady_not (by rfl)) ?_
                    (try simp only [Act.put, List.setIfInBounds_toArray, List.set_cons_zero, List.set_cons_succ])
                    refine seqU_step (v := undef) rfl (steady_not (by rfl)) ?_
                    (try simp only [Act.put, List.setIfInBounds_toArray, List.set_cons_zero, List.set_cons_succ])
                    refine seqU_step (v := undef) rfl (steady_not (by rfl)) ?_
                    (try simp only [Act.put, List.setIfInBounds_toArray, List.set_cons_zero, List.set_cons_succ])
                    refine seqU_step (v := undef) rfl (steady_not (by rfl)) ?_
                    (try simp only [Act.put, List.setIfInBounds_toArray, List.set_cons_zero, List.set_cons_succ])
                    refine seqU_step (v := ?_) rfl (steady_val (by rfl) ?_) ?_
                    rotate_left
                    · intro w hSw
                      (try dsimp only at hSw)
                      go_simp
                      with_reducible rfl
                    (try simp only [Act.put, List.setIfInBounds_toArray, List.set_cons_zero, List.set_cons_succ])
                    refine seqU_step (v := ?_) rfl (steady_val (by rfl) ?_) ?_
                    rotate_left
                    · intro w hSw
                      (try dsimp only at hSw)
                      go_simp
                      with_reducible rfl
                    (try simp only [Act.put, List.setIfInBounds_toArray, List.set_cons_zero, List.set_cons_succ])
                    refine seqU_done (fun w' hS => ?_)
                    have HBQ := Lib.hid (heldB8 hS)
                    clear hS
                    go_wp2_with (fail)
                    go_meet
                    case rel => exact ⟨true, rfl, Lib.hid (fun _ => HAPT.out), HBQ⟩
              · have HAPT := Lib.hid (show apart k a b k2 a2 b2 by unfold apart; omega)
                have LKA := Lib.hid (fun w' => (by have q := linkd_any k a b x w'; rw [show decide (k ≤ 5) = true by simp; omega] at q; exact q : Calls Try.prog 21 #[.agg #[.int .i64 k, .int .i64 a, .int .i64 b, .float .f64 x]] w' fun e w2 => e = .returned (.bool true) ∧ Below w'.heap.size w' w2))
                have LKB := Lib.hid (fun w' => (by have q := linkd_any k2 a2 b2 x2 w'; rw [show decide (k2 ≤ 5) = true by simp; omega] at q; exact q : Calls Try.prog 21 #[.agg #[.int .i64 k2, .int .i64 a2, .int .i64 b2, .float .f64 x2]] w' fun e w2 => e = .returned (.bool true) ∧ Below w'.heap.size w' w2))
                have c1' : (a == a2) = false := by rw [beq_eq_false_iff_ne]; exact c1
                have c1'' : (a != a2) = true := by simp; exact c1
                have c3' : (a == b2) = false := by rw [beq_eq_false_iff_ne]; exact c3
                clear la lb c1 c3 GG0
                clear HAP HBP HL1 HL2 HN HL HWL HX HE1 HEI HPL HY1 HY2 HY3 HB1 GAT HB2 HZ1 HZ2 HZ3 HP1 HP2 HT HA1 HA2 HA3 HQ1 HQ2 HAB HC3 HC3d BX1 BX7 BX2 BX3 BXN BXW BXG HK33
                as_aux_lemma =>
                  refine wp_region_seq (by kernel_rfl) (by as_aux_lemma => kernel_rfl) (fun w' => w'.cell? ⟨g2, 0, none⟩ = some (.int .i64 k) ∧ w'.cell? ⟨g2, 1, none⟩ = some (.int .i64 a) ∧ w'.cell? ⟨g2, 2, none⟩ = some (.int .i64 b) ∧ w'.cell? ⟨g2, 3, none⟩ = some (.float .f64 x) ∧ w'.cell? ⟨g3, 0, none⟩ = some (.int .i64 k2) ∧ w'.cell? ⟨g3, 1, none⟩ = some (.int .i64 a2) ∧ w'.cell? ⟨g3, 2, none⟩ = some (.int .i64 b2) ∧ w'.cell? ⟨g3, 3, none⟩ = some (.float .f64 x2) ∧ Below wt.heap.size wt w') HS8.out ?_
                  refine seqU_step (v := ?_) rfl (steady_val (by rfl) ?_) ?_
                  rotate_left
                  · intro w hSw
                    (try dsimp only at hSw)
                    go_simp
                    with_reducible rfl
                  (try simp only [Act.put, List.setIfInBounds_toArray, List.set_cons_zero, List.set_cons_succ])
                  refine seqU_step (v := ?_) rfl (steady_val (by rfl) ?_) ?_
                  rotate_left
                  · intro w hSw
                    (try dsimp only at hSw)
                    go_simp
                    with_reducible rfl
                  (try simp only [Act.put, List.setIfInBounds_toArray, List.set_cons_zero, List.set_cons_succ])
                  refine seqU_step (v := .bool true) rfl (steady_call (f := 21) (by rfl) ?_ (fun w hS => (LKA.out w).mono (fun e w' h => ⟨h.1, held_keep8 hS h.2⟩))) ?_
                  · intro w hSw
                    go_simp
                  (try simp only [Act.put, List.setIfInBounds_toArray, List.set_cons_zero, List.set_cons_succ])
                  refine seqU_step (v := ?_) rfl (steady_val (by rfl) ?_) ?_
                  rotate_left
                  · intro w hSw
                    (try dsimp only at hSw)
                    go_simp
                    with_reducible rfl
                  (try simp only [Act.put, List.setIfInBounds_toArray, List.set_cons_zero, List.set_cons_succ])
                  refine seqU_step (v := ?_) rfl (steady_val (by rfl) ?_) ?_
                  rotate_left
                  · intro w hSw
                    (try dsimp only at hSw)
                    go_simp
                    with_reducible rfl
                  (try simp only [Act.put, List.setIfInBounds_toArray, List.set_cons_zero, List.set_cons_succ])
                  refine seqU_step (v := .bool true) rfl (steady_call (f := 21) (by rfl) ?_ (fun w hS => (LKB.out w).mono (fun e w' h => ⟨h.1, held_keep8 hS h.2⟩))) ?_
                  · intro w hSw
                    go_simp
                  (try simp only [Act.put, List.setIfInBounds_toArray, List.set_cons_zero, List.set_cons_succ])
                  refine seqU_step (v := ?_) rfl (steady_val (by rfl) ?_) ?_
                  rotate_left
                  · intro w hSw
                    (try dsimp only at hSw)
                    go_simp
                    with_reducible rfl
                  (try simp only [Act.put, List.setIfInBounds_toArray, List.set_cons_zero, List.set_cons_succ])
                  refine seqU_step (v := ?_) rfl (steady_val (by rfl) ?_) ?_
                  rotate_left
                  · intro w hSw
                    (try dsimp only at hSw)
                    go_simp
                    with_reducible rfl
                  (try simp only [Act.put, List.setIfInBounds_toArray, List.set_cons_zero, List.set_cons_succ])
                  refine seqU_step (v := ?_) rfl (steady_val (by rfl) ?_) ?_
                  rotate_left
                  · intro w hSw
                    (try dsimp only at hSw)
                    go_simp
                    with_reducible rfl
                  (try simp only [Act.put, List.setIfInBounds_toArray, List.set_cons_zero, List.set_cons_succ])
                  refine seqU_step (v := ?_) rfl (steady_val (by rfl) ?_) ?_
                  rotate_left
                  · intro w hSw
                    (try dsimp only at hSw)
                    go_simp
                    with_reducible rfl
                  (try simp only [Act.put, List.setIfInBounds_toArray, List.set_cons_zero, List.set_cons_succ])
                  refine seqU_step (v := .bool true) rfl (steady_call (f := 21) (by rfl) ?_ (fun w hS => (LKA.out w).mono (fun e w' h => ⟨h.1, held_keep8 hS h.2⟩))) ?_
                  · intro w hSw
                    go_simp
                  (try simp only [Act.put, List.setIfInBounds_toArray, List.set_cons_zero, List.set_cons_succ])
                  refine seqU_step (v := ?_) rfl (steady_val (by rfl) ?_) ?_
                  rotate_left
                  · intro w hSw
                    (try dsimp only at hSw)
                    go_simp
                    with_reducible rfl
                  (try simp only [Act.put, List.setIfInBounds_toArray, List.set_cons_zero, List.set_cons_succ])
                  refine seqU_step (v := ?_) rfl (steady_val (by rfl) ?_) ?_
                  rotate_left
                  · intro w hSw
                    (try dsimp only at hSw)
                    go_simp
                    with_reducible rfl
                  (try simp only [Act.put, List.setIfInBounds_toArray, List.set_cons_zero, List.set_cons_succ])
                  refine seqU_step (v := ?_) rfl (steady_val (by rfl) ?_) ?_
                  rotate_left
                  · intro w hSw
                    (try dsimp only at hSw)
                    go_simp
                    with_reducible rfl
                  (try simp only [Act.put, List.setIfInBounds_toArray, List.set_cons_zero, List.set_cons_succ])
                  refine seqU_step (v := ?_) rfl (steady_val (by rfl) ?_) ?_
                  rotate_left
                  · intro w hSw
                    (try dsimp only at hSw)
                    go_simp
                    with_reducible rfl
                  (try simp only [Act.put, List.setIfInBounds_toArray, List.set_cons_zero, List.set_cons_succ])
                  refine seqU_step (v := ?_) rfl (steady_val (by rfl) ?_) ?_
                  rotate_left
                  · intro w hSw
                    (try dsimp only at hSw)
                    go_simp
                    with_reducible rfl
                  (try simp only [Act.put, List.setIfInBounds_toArray, List.set_cons_zero, List.set_cons_succ])
                  refine seqU_step (v := ?_) rfl (steady_val (by rfl) ?_) ?_
                  rotate_left
                  · intro w hSw
                    (try dsimp only at hSw)
                    go_simp
                    with_reducible rfl
                  (try simp only [Act.put, List.setIfInBounds_toArray, List.set_cons_zero, List.set_cons_succ])
                  refine seqU_step (v := ?_) rfl (steady_val (by rfl) ?_) ?_
                  rotate_left
                  · intro w hSw
                    (try dsimp only at hSw)
                    go_simp
                    with_reducible rfl
                  (try simp only [Act.put, List.setIfInBounds_toArray, List.set_cons_zero, List.set_cons_succ])
                  refine seqU_step (v := undef) rfl (steady_not (by rfl)) ?_
                  (try simp only [Act.put, List.setIfInBounds_toArray, List.set_cons_zero, List.set_cons_succ])
                  refine seqU_step (v := undef) rfl (steady_not (by rfl)) ?_
                  (try simp only [Act.put, List.setIfInBounds_toArray, List.set_cons_zero, List.set_cons_succ])
                  refine seqU_step (v := undef) rfl (steady_not (by rfl)) ?_
                  (try simp only [Act.put, List.setIfInBounds_toArray, List.set_cons_zero, List.set_cons_succ])
                  refine seqU_step (v := undef) rfl (steady_not (by rfl)) ?_
                  (try simp only [Act.put, List.setIfInBounds_toArray, List.set_cons_zero, List.set_cons_succ])
                  refine seqU_step (v := undef) rfl (steady_not (by rfl)) ?_
                  (try simp only [Act.put, List.setIfInBounds_toArray, List.set_cons_zero, List.set_cons_succ])
                  refine seqU_step (v := ?_) rfl (steady_val (by rfl) ?_) ?_
                  rotate_left
                  · intro w hSw
                    (try dsimp only at hSw)
                    go_simp
                    with_reducible rfl
                  (try simp only [Act.put, List.setIfInBounds_toArray, List.set_cons_zero, List.set_cons_succ])
                  refine seqU_step (v := ?_) rfl (steady_val (by rfl) ?_) ?_
                  rotate_left
                  · intro w hSw
                    (try dsimp only at hSw)
                    go_simp
                    with_reducible rfl
                  (try simp only [Act.put, List.setIfInBounds_toArray, List.set_cons_zero, List.set_cons_succ])
                  refine seqU_step (v := ?_) rfl (steady_val (by rfl) ?_) ?_
                  rotate_left
                  · intro w hSw
                    (try dsimp only at hSw)
                    go_simp
                    with_reducible rfl
                  (try simp only [Act.put, List.setIfInBounds_toArray, List.set_cons_zero, List.set_cons_succ])
                  refine seqU_step (v := ?_) rfl (steady_val (by rfl) ?_) ?_
                  rotate_left
                  · intro w hSw
                    (try dsimp only at hSw)
                    go_simp
                    with_reducible rfl
                  (try simp only [Act.put, List.setIfInBounds_toArray, List.set_cons_zero, List.set_cons_succ])
                  refine seqU_step (v := ?_) rfl (steady_val (by rfl) ?_) ?_
                  rotate_left
                  · intro w hSw
                    (try dsimp only at hSw)
                    go_simp
                    with_reducible rfl
                  (try simp only [Act.put, List.setIfInBounds_toArray, List.set_cons_zero, List.set_cons_succ])
                  refine seqU_step (v := ?_) rfl (steady_val (by rfl) ?_) ?_
                  rotate_left
                  · intro w hSw
                    (try dsimp only at hSw)
                    go_simp
                    with_reducible rfl
                  (try simp only [Act.put, List.setIfInBounds_toArray, List.set_cons_zero, List.set_cons_succ])
                  refine seqU_step (v := ?_) rfl (steady_val (by rfl) ?_) ?_
                  rotate_left
                  · intro w hSw
                    (try dsimp only at hSw)
                    go_simp
                    with_reducible rfl
                  (try simp only [Act.put, List.setIfInBounds_toArray, List.set_cons_zero, List.set_cons_succ])
                  refine seqU_step (v := ?_) rfl (steady_val (by rfl) ?_) ?_
                  rotate_left
                  · intro w hSw
                    (try dsimp only at hSw)
                    go_simp
                    with_reducible rfl
                  (try simp only [Act.put, List.setIfInBounds_toArray, List.set_cons_zero, List.set_cons_succ])
                  refine seqU_step (v := undef) rfl (steady_not (by rfl)) ?_
                  (try simp only [Act.put, List.setIfInBounds_toArray, List.set_cons_zero, List.set_cons_succ])
                  refine seqU_step (v := undef) rfl (steady_not (by rfl)) ?_
                  (try simp only [Act.put, List.setIfInBounds_toArray, List.set_cons_zero, List.set_cons_succ])
                  refine seqU_step (v := undef) rfl (steady_not (by rfl)) ?_
                  (try simp only [Act.put, List.setIfInBounds_toArray, List.set_cons_zero, List.set_cons_succ])
                  refine seqU_step (v := undef) rfl (steady_not (by rfl)) ?_
                  (try simp only [Act.put, List.setIfInBounds_toArray, List.set_cons_zero, List.set_cons_succ])
                  refine seqU_step (v := undef) rfl (steady_not (by rfl)) ?_
                  (try simp only [Act.put, List.setIfInBounds_toArray, List.set_cons_zero, List.set_cons_succ])
                  refine seqU_step (v := ?_) rfl (steady_val (by rfl) ?_) ?_
                  rotate_left
                  · intro w hSw
                    (try dsimp only at hSw)
                    go_simp
                    with_reducible rfl
                  (try simp only [Act.put, List.setIfInBounds_toArray, List.set_cons_zero, List.set_cons_succ])
                  refine seqU_step (v := ?_) rfl (steady_val (by rfl) ?_) ?_
                  rotate_left
                  · intro w hSw
                    (try dsimp only at hSw)
                    go_simp
                    with_reducible rfl
                  (try simp only [Act.put, List.setIfInBounds_toArray, List.set_cons_zero, List.set_cons_succ])
                  refine seqU_step (v := ?_) rfl (steady_val (by rfl) ?_) ?_
                  rotate_left
                  · intro w hSw
                    (try dsimp only at hSw)
                    go_simp
                    with_reducible rfl
                  (try simp only [Act.put, List.setIfInBounds_toArray, List.set_cons_zero, List.set_cons_succ])
                  refine seqU_step (v := ?_) rfl (steady_val (by rfl) ?_) ?_
                  rotate_left
                  · intro w hSw
                    (try dsimp only at hSw)
                    go_simp
                    with_reducible rfl
                  (try simp only [Act.put, List.setIfInBounds_toArray, List.set_cons_zero, List.set_cons_succ])
                  refine seqU_step (v := ?_) rfl (steady_val (by rfl) ?_) ?_
                  rotate_left
                  · intro w hSw
                    (try dsimp only at hSw)
                    go_simp
                    with_reducible rfl
                  (try simp only [Act.put, List.setIfInBounds_toArray, List.set_cons_zero, List.set_cons_succ])
                  refine seqU_step (v := ?_) rfl (steady_val (by rfl) ?_) ?_
                  rotate_left
                  · intro w hSw
                    (try dsimp only at hSw)
                    go_simp
                    with_reducible rfl
                  (try simp only [Act.put, List.setIfInBounds_toArray, List.set_cons_zero, List.set_cons_succ])
                  refine seqU_step (v := undef) rfl (steady_not (by rfl)) ?_
                  (try simp only [Act.put, List.setIfInBounds_toArray, List.set_cons_zero, List.set_cons_succ])
                  refine seqU_step (v := undef) rfl (steady_not (by rfl)) ?_
                  (try simp only [Act.put, List.setIfInBounds_toArray, List.set_cons_zero, List.set_cons_succ])
                  refine seqU_step (v := undef) rfl (steady_not (by rfl)) ?_
                  (try simp only [Act.put, List.setIfInBounds_toArray, List.set_cons_zero, List.set_cons_succ])
                  refine seqU_step (v := undef) rfl (steady_not (by rfl)) ?_
                  (try simp only [Act.put, List.setIfInBounds_toArray, List.set_cons_zero, List.set_cons_succ])
                  refine seqU_step (v := undef) rfl (steady_not (by rfl)) ?_
                  (try simp only [Act.put, List.setIfInBounds_toArray, List.set_cons_zero, List.set_cons_succ])
                  refine seqU_step (v := undef) rfl (steady_not (by rfl)) ?_
                  (try simp only [Act.put, List.setIfInBounds_toArray, List.set_cons_zero, List.set_cons_succ])
                  refine seqU_step (v := undef) rfl (steady_not (by rfl)) ?_
                  (try simp only [Act.put, List.setIfInBounds_toArray, List.set_cons_zero, List.set_cons_succ])
                  refine seqU_step (v := undef) rfl (steady_not (by rfl)) ?_
                  (try simp only [Act.put, List.setIfInBounds_toArray, List.set_cons_zero, List.set_cons_succ])
                  refine seqU_step (v := undef) rfl (steady_not (by rfl)) ?_
                  (try simp only [Act.put, List.setIfInBounds_toArray, List.set_cons_zero, List.set_cons_succ])
                  refine seqU_step (v := undef) rfl (steady_not (by rfl)) ?_
                  (try simp only [Act.put, List.setIfInBounds_toArray, List.set_cons_zero, List.set_cons_succ])
                  refine seqU_step (v := undef) rfl (steady_not (by rfl)) ?_
                  (try simp only [Act.put, List.setIfInBounds_toArray, List.set_cons_zero, List.set_cons_succ])
                  refine seqU_step (v := ?_) rfl (steady_val (by rfl) ?_) ?_
                  rotate_left
                  · intro w hSw
                    (try dsimp only at hSw)
                    go_simp
                    with_reducible rfl
                  (try simp only [Act.put, List.setIfInBounds_toArray, List.set_cons_zero, List.set_cons_succ])
                  refine seqU_step (v := ?_) rfl (steady_val (by rfl) ?_) ?_
                  rotate_left
                  · intro w hSw
                    (try dsimp only at hSw)
                    go_simp
                    with_reducible rfl
                  (try simp only [Act.put, List.setIfInBounds_toArray, List.set_cons_zero, List.set_cons_succ])
                  refine seqU_done (fun w' hS => ?_)
                  have HBQ := Lib.hid (heldB8 hS)
                  clear hS
                  go_wp2_with (fail)
                  go_meet
                  case rel => exact ⟨true, rfl, Lib.hid (fun _ => HAPT.out), HBQ⟩
          · have HAPT := Lib.hid (show apart k a b k2 a2 b2 by unfold apart; omega)
            have LKA := Lib.hid (fun w' => (by have q := linkd_any k a b x w'; rw [show decide (k ≤ 5) = true by simp; omega] at q; exact q : Calls Try.prog 21 #[.agg #[.int .i64 k, .int .i64 a, .int .i64 b, .float .f64 x]] w' fun e w2 => e = .returned (.bool true) ∧ Below w'.heap.size w' w2))
            have LKB := Lib.hid (fun w' => (by have q := linkd_any k2 a2 b2 x2 w'; rw [show decide (k2 ≤ 5) = false by simp; omega] at q; exact q : Calls Try.prog 21 #[.agg #[.int .i64 k2, .int .i64 a2, .int .i64 b2, .float .f64 x2]] w' fun e w2 => e = .returned (.bool false) ∧ Below w'.heap.size w' w2))
            clear la lb  GG0
            clear HAP HBP HL1 HL2 HN HL HWL HX HE1 HEI HPL HY1 HY2 HY3 HB1 GAT HB2 HZ1 HZ2 HZ3 HP1 HP2 HT HA1 HA2 HA3 HQ1 HQ2 HAB HC3 HC3d BX1 BX7 BX2 BX3 BXN BXW BXG HK33
            as_aux_lemma =>
              refine wp_region_seq (by kernel_rfl) (by as_aux_lemma => kernel_rfl) (fun w' => w'.cell? ⟨g2, 0, none⟩ = some (.int .i64 k) ∧ w'.cell? ⟨g2, 1, none⟩ = some (.int .i64 a) ∧ w'.cell? ⟨g2, 2, none⟩ = some (.int .i64 b) ∧ w'.cell? ⟨g2, 3, none⟩ = some (.float .f64 x) ∧ w'.cell? ⟨g3, 0, none⟩ = some (.int .i64 k2) ∧ w'.cell? ⟨g3, 1, none⟩ = some (.int .i64 a2) ∧ w'.cell? ⟨g3, 2, none⟩ = some (.int .i64 b2) ∧ w'.cell? ⟨g3, 3, none⟩ = some (.float .f64 x2) ∧ Below wt.heap.size wt w') HS8.out ?_
              refine seqU_step (v := ?_) rfl (steady_val (by rfl) ?_) ?_
              rotate_left
              · intro w hSw
                (try dsimp only at hSw)
                go_simp
                with_reducible rfl
              (try simp only [Act.put, List.setIfInBounds_toArray, List.set_cons_zero, List.set_cons_succ])
              refine seqU_step (v := ?_) rfl (steady_val (by rfl) ?_) ?_
              rotate_left
              · intro w hSw
                (try dsimp only at hSw)
                go_simp
                with_reducible rfl
              (try simp only [Act.put, List.setIfInBounds_toArray, List.set_cons_zero, List.set_cons_succ])
              refine seqU_step (v := .bool true) rfl (steady_call (f := 21) (by rfl) ?_ (fun w hS => (LKA.out w).mono (fun e w' h => ⟨h.1, held_keep8 hS h.2⟩))) ?_
              · intro w hSw
                go_simp
              (try simp only [Act.put, List.setIfInBounds_toArray, List.set_cons_zero, List.set_cons_succ])
              refine seqU_step (v := ?_) rfl (steady_val (by rfl) ?_) ?_
              rotate_left
              · intro w hSw
                (try dsimp only at hSw)
                go_simp
                with_reducible rfl
              (try simp only [Act.put, List.setIfInBounds_toArray, List.set_cons_zero, List.set_cons_succ])
              refine seqU_step (v := ?_) rfl (steady_val (by rfl) ?_) ?_
              rotate_left
              · intro w hSw
                (try dsimp only at hSw)
                go_simp
                with_reducible rfl
              (try simp only [Act.put, List.setIfInBounds_toArray, List.set_cons_zero, List.set_cons_succ])
              refine seqU_step (v := .bool false) rfl (steady_call (f := 21) (by rfl) ?_ (fun w hS => (LKB.out w).mono (fun e w' h => ⟨h.1, held_keep8 hS h.2⟩))) ?_
              · intro w hSw
                go_simp
              (try simp only [Act.put, List.setIfInBounds_toArray, List.set_cons_zero, List.set_cons_succ])
              refine seqU_step (v := ?_) rfl (steady_val (by rfl) ?_) ?_
              rotate_left
              · intro w hSw
                (try dsimp only at hSw)
                go_simp
                with_reducible rfl
              (try simp only [Act.put, List.setIfInBounds_toArray, List.set_cons_zero, List.set_cons_succ])
              refine seqU_step (v := ?_) rfl (steady_val (by rfl) ?_) ?_
              rotate_left
              · intro w hSw
                (try dsimp only at hSw)
                go_simp
                with_reducible rfl
              (try simp only [Act.put, List.setIfInBounds_toArray, List.set_cons_zero, List.set_cons_succ])
              refine seqU_step (v := undef) rfl (steady_not (by rfl)) ?_
              (try simp only [Act.put, List.setIfInBounds_toArray, List.set_cons_zero, List.set_cons_succ])
              refine seqU_step (v := undef) rfl (steady_not (by rfl)) ?_
              (try simp only [Act.put, List.setIfInBounds_toArray, List.set_cons_zero, List.set_cons_succ])
              refine seqU_step (v := undef) rfl (steady_not (by rfl)) ?_
              (try simp only [Act.put, List.setIfInBounds_toArray, List.set_cons_zero, List.set_cons_succ])
              refine seqU_step (v := undef) rfl (steady_not (by rfl)) ?_
              (try simp only [Act.put, List.setIfInBounds_toArray, List.set_cons_zero, List.set_cons_succ])
              refine seqU_step (v := undef) rfl (steady_not (by rfl)) ?_
              (try simp only [Act.put, List.setIfInBounds_toArray, List.set_cons_zero, List.set_cons_succ])
              refine seqU_step (v := undef) rfl (steady_not (by rfl)) ?_
              (try simp only [Act.put, List.setIfInBounds_toArray, List.set_cons_zero, List.set_cons_succ])
              refine seqU_step (v := undef) rfl (steady_not (by rfl)) ?_
              (try simp only [Act.put, List.setIfInBounds_toArray, List.set_cons_zero, List.set_cons_succ])
              refine seqU_step (v := undef) rfl (steady_not (by rfl)) ?_
              (try simp only [Act.put, List.setIfInBounds_toArray, List.set_cons_zero, List.set_cons_succ])
              refine seqU_step (v := undef) rfl (steady_not (by rfl)) ?_
              (try simp only [Act.put, List.setIfInBounds_toArray, List.set_cons_zero, List.set_cons_succ])
              refine seqU_step (v := undef) rfl (steady_not (by rfl)) ?_
              (try simp only [Act.put, List.setIfInBounds_toArray, List.set_cons_zero, List.set_cons_succ])
              refine seqU_step (v := undef) rfl (steady_not (by rfl)) ?_
              (try simp only [Act.put, List.setIfInBounds_toArray, List.set_cons_zero, List.set_cons_succ])
              refine seqU_step (v := undef) rfl (steady_not (by rfl)) ?_
              (try simp only [Act.put, List.setIfInBounds_toArray, List.set_cons_zero, List.set_cons_succ])
              refine seqU_step (v := undef) rfl (steady_not (by rfl)) ?_
              (try simp only [Act.put, List.setIfInBounds_toArray, List.set_cons_zero, List.set_cons_succ])
              refine seqU_step (v := undef) rfl (steady_not (by rfl)) ?_
              (try simp only [Act.put, List.setIfInBounds_toArray, List.set_cons_zero, List.set_cons_succ])
              refine seqU_step (v := undef) rfl (steady_not (by rfl)) ?_
              (try simp only [Act.put, List.setIfInBounds_toArray, List.set_cons_zero, List.set_cons_succ])
              refine seqU_step (v := undef) rfl (steady_not (by rfl)) ?_
              (try simp only [Act.put, List.setIfInBounds_toArray, List.set_cons_zero, List.set_cons_succ])
              refine seqU_step (v := undef) rfl (steady_not (by rfl)) ?_
              (try simp only [Act.put, List.setIfInBounds_toArray, List.set_cons_zero, List.set_cons_succ])
              refine seqU_step (v := undef) rfl (steady_not (by rfl)) ?_
              (try simp only [Act.put, List.setIfInBounds_toArray, List.set_cons_zero, List.set_cons_succ])
              refine seqU_step (v := undef) rfl (steady_not (by rfl)) ?_
              (try simp only [Act.put, List.setIfInBounds_toArray, List.set_cons_zero, List.set_cons_succ])
              refine seqU_step (v := undef) rfl (steady_not (by rfl)) ?_
              (try simp only [Act.put, List.setIfInBounds_toArray, List.set_cons_zero, List.set_cons_succ])
              refine seqU_step (v := undef) rfl (steady_not (by rfl)) ?_
              (try simp only [Act.put, List.setIfInBounds_toArray, List.set_cons_zero, List.set_cons_succ])
              refine seqU_step (v := undef) rfl (steady_not (by rfl)) ?_
              (try simp only [Act.put, List.setIfInBounds_toArray, List.set_cons_zero, List.set_cons_succ])
              refine seqU_step (v := undef) rfl (steady_not (by rfl)) ?_
              (try simp only [Act.put, List.setIfInBounds_toArray, List.set_cons_zero, List.set_cons_succ])
              refine seqU_step (v := undef) rfl (steady_not (by rfl)) ?_
              (try simp only [Act.put, List.setIfInBounds_toArray, List.set_cons_zero, List.set_cons_succ])
              refine seqU_step (v := undef) rfl (steady_not (by rfl)) ?_
              (try simp only [Act.put, List.setIfInBounds_toArray, List.set_cons_zero, List.set_cons_succ])
              refine seqU_step (v := undef) rfl (steady_not (by rfl)) ?_
              (try simp only [Act.put, List.setIfInBounds_toArray, List.set_cons_zero, List.set_cons_succ])
              refine seqU_step (v := undef) rfl (steady_not (by rfl)) ?_
              (try simp only [Act.put, List.setIfInBounds_toArray, List.set_cons_zero, List.set_cons_succ])
              refine seqU_step (v := undef) rfl (steady_not (by rfl)) ?_
              (try simp only [Act.put, List.setIfInBounds_toArray, List.set_cons_zero, List.set_cons_succ])
              refine seqU_step (v := undef) rfl (steady_not (by rfl)) ?_
              (try simp only [Act.put, List.setIfInBounds_toArray, List.set_cons_zero, List.set_cons_succ])
              refine seqU_step (v := undef) rfl (steady_not (by rfl)) ?_
              (try simp only [Act.put, List.setIfInBounds_toArray, List.set_cons_zero, List.set_cons_succ])
              refine seqU_step (v := undef) rfl (steady_not (by rfl)) ?_
              (try simp only [Act.put, List.setIfInBounds_toArray, List.set_cons_zero, List.set_cons_succ])
              refine seqU_step (v := undef) rfl (steady_not (by rfl)) ?_
              (try simp only [Act.put, List.setIfInBounds_toArray, List.set_cons_zero, List.set_cons_succ])
              refine seqU_step (v := ?_) rfl (steady_val (by rfl) ?_) ?_
              rotate_left
              · intro w hSw
                (try dsimp only at hSw)
                go_simp
                with_reducible rfl
              (try simp only [Act.put, List.setIfInBounds_toArray, List.set_cons_zero, List.set_cons_succ])
              refine seqU_step (v := ?_) rfl (steady_val (by rfl) ?_) ?_
              rotate_left
              · intro w hSw
                (try dsimp only at hSw)
                go_simp
                with_reducible rfl
              (try simp only [Act.put, List.setIfInBounds_toArray, List.set_cons_zero, List.set_cons_succ])
              refine seqU_step (v := undef) rfl (steady_not (by rfl)) ?_
              (try simp only [Act.put, List.setIfInBounds_toArray, List.set_cons_zero, List.set_cons_succ])
              refine seqU_step (v := undef) rfl (steady_not (by rfl)) ?_
              (try simp only [Act.put, List.setIfInBounds_toArray, List.set_cons_zero, List.set_cons_succ])
              refine seqU_step (v := undef) rfl (steady_not (by rfl)) ?_
              (try simp only [Act.put, List.setIfInBounds_toArray, List.set_cons_zero, List.set_cons_succ])
              refine seqU_step (v := undef) rfl (steady_not (by rfl)) ?_
              (try simp only [Act.put, List.setIfInBounds_toArray, List.set_cons_zero, List.set_cons_succ])
              refine seqU_step (v := undef) rfl (steady_not (by rfl)) ?_
              (try simp only [Act.put, List.setIfInBounds_toArray, List.set_cons_zero, List.set_cons_succ])
              refine seqU_step (v := undef) rfl (steady_not (by rfl)) ?_
              (try simp only [Act.put, List.setIfInBounds_toArray, List.set_cons_zero, List.set_cons_succ])
              refine seqU_step (v := undef) rfl (steady_not (by rfl)) ?_
              (try simp only [Act.put, List.setIfInBounds_toArray, List.set_cons_zero, List.set_cons_succ])
              refine seqU_step (v := undef) rfl (steady_not (by rfl)) ?_
              (try simp only [Act.put, List.setIfInBounds_toArray, List.set_cons_zero, List.set_cons_succ])
              refine seqU_step (v := undef) rfl (steady_not (by rfl)) ?_
              (try simp only [Act.put, List.setIfInBounds_toArray, List.set_cons_zero, List.set_cons_succ])
              refine seqU_step (v := undef) rfl (steady_not (by rfl)) ?_
              (try simp only [Act.put, List.setIfInBounds_toArray, List.set_cons_zero, List.set_cons_succ])
              refine seqU_step (v := undef) rfl (steady_not (by rfl)) ?_
              (try simp only [Act.put, List.setIfInBounds_toArray, List.set_cons_zero, List.set_cons_succ])
              refine seqU_step (v := ?_) rfl (steady_val (by rfl) ?_) ?_
              rotate_left
              · intro w hSw
                (try dsimp only at hSw)
                go_simp
                with_reducible rfl
              (try simp only [Act.put, List.setIfInBounds_toArray, List.set_cons_zero, List.set_cons_succ])
              refine seqU_step (v := ?_) rfl (steady_val (by rfl) ?_) ?_
              rotate_left
              · intro w hSw
                (try dsimp only at hSw)
                go_simp
                with_reducible rfl
              (try simp only [Act.put, List.setIfInBounds_toArray, List.set_cons_zero, List.set_cons_succ])
              refine seqU_done (fun w' hS => ?_)
              have HBQ := Lib.hid (heldB8 hS)
              clear hS
              go_wp2_with (fail)
              go_meet
              case rel => exact ⟨true, rfl, Lib.hid (fun _ => HAPT.out), HBQ⟩
        · by_cases lb : k2 ≤ 5
          · have HAPT := Lib.hid (show apart k a b k2 a2 b2 by unfold apart; omega)
            have LKA := Lib.hid (fun w' => (by have q := linkd_any k a b x w'; rw [show decide (k ≤ 5) = false by simp; omega] at q; exact q : Calls Try.prog 21 #[.agg #[.int .i64 k, .int .i64 a, .int .i64 b, .float .f64 x]] w' fun e w2 => e = .returned (.bool false) ∧ Below w'.heap.size w' w2))
            have LKB := Lib.hid (fun w' => (by have q := linkd_any k2 a2 b2 x2 w'; rw [show decide (k2 ≤ 5) = true by simp; omega] at q; exact q : Calls Try.prog 21 #[.agg #[.int .i64 k2, .int .i64 a2, .int .i64 b2, .float .f64 x2]] w' fun e w2 => e = .returned (.bool true) ∧ Below w'.heap.size w' w2))
            clear la lb  GG0
            clear HAP HBP HL1 HL2 HN HL HWL HX HE1 HEI HPL HY1 HY2 HY3 HB1 GAT HB2 HZ1 HZ2 HZ3 HP1 HP2 HT HA1 HA2 HA3 HQ1 HQ2 HAB HC3 HC3d BX1 BX7 BX2 BX3 BXN BXW BXG HK33
            as_aux_lemma =>
              refine wp_region_seq (by kernel_rfl) (by as_aux_lemma => kernel_rfl) (fun w' => w'.cell? ⟨g2, 0, none⟩ = some (.int .i64 k) ∧ w'.cell? ⟨g2, 1, none⟩ = some (.int .i64 a) ∧ w'.cell? ⟨g2, 2, none⟩ = some (.int .i64 b) ∧ w'.cell? ⟨g2, 3, none⟩ = some (.float .f64 x) ∧ w'.cell? ⟨g3, 0, none⟩ = some (.int .i64 k2) ∧ w'.cell? ⟨g3, 1, none⟩ = some (.int .i64 a2) ∧ w'.cell? ⟨g3, 2, none⟩ = some (.int .i64 b2) ∧ w'.cell? ⟨g3, 3, none⟩ = some (.float .f64 x2) ∧ Below wt.heap.size wt w') HS8.out ?_
              refine seqU_step (v := ?_) rfl (steady_val (by rfl) ?_) ?_
              rotate_left
              · intro w hSw
                (try dsimp only at hSw)
                go_simp
                with_reducible rfl
              (try simp only [Act.put, List.setIfInBounds_toArray, List.set_cons_zero, List.set_cons_succ])
              refine seqU_step (v := ?_) rfl (steady_val (by rfl) ?_) ?_
              rotate_left
              · intro w hSw
                (try dsimp only at hSw)
                go_simp
                with_reducible rfl
              (try simp only [Act.put, List.setIfInBounds_toArray, List.set_cons_zero, List.set_cons_succ])
              refine seqU_step (v := .bool false) rfl (steady_call (f := 21) (by rfl) ?_ (fun w hS => (LKA.out w).mono (fun e w' h => ⟨h.1, held_keep8 hS h.2⟩))) ?_
              · intro w hSw
                go_simp
              (try simp only [Act.put, List.setIfInBounds_toArray, List.set_cons_zero, List.set_cons_succ])
              refine seqU_step (v := ?_) rfl (steady_val (by rfl) ?_) ?_
              rotate_left
              · intro w hSw
                (try dsimp only at hSw)
                go_simp
                with_reducible rfl
              (try simp only [Act.put, List.setIfInBounds_toArray, List.set_cons_zero, List.set_cons_succ])
              refine seqU_step (v := ?_) rfl (steady_val (by rfl) ?_) ?_
              rotate_left
              · intro w hSw
                (try dsimp only at hSw)
                go_simp
                with_reducible rfl
              (try simp only [Act.put, List.setIfInBounds_toArray, List.set_cons_zero, List.set_cons_succ])
              refine seqU_step (v := .bool true) rfl (steady_call (f := 21) (by rfl) ?_ (fun w hS => (LKB.out w).mono (fun e w' h => ⟨h.1, held_keep8 hS h.2⟩))) ?_
              · intro w hSw
                go_simp
              (try simp only [Act.put, List.setIfInBounds_toArray, List.set_cons_zero, List.set_cons_succ])
              refine seqU_step (v := ?_) rfl (steady_val (by rfl) ?_) ?_
              rotate_left
              · intro w hSw
                (try dsimp only at hSw)
                go_simp
                with_reducible rfl
              (try simp only [Act.put, List.setIfInBounds_toArray, List.set_cons_zero, List.set_cons_succ])
              refine seqU_step (v := ?_) rfl (steady_val (by rfl) ?_) ?_
              rotate_left
              · intro w hSw
                (try dsimp only at hSw)
                go_simp
                with_reducible rfl
              (try simp only [Act.put, List.setIfInBounds_toArray, List.set_cons_zero, List.set_cons_succ])
              refine seqU_step (v := undef) rfl (steady_not (by rfl)) ?_
              (try simp only [Act.put, List.setIfInBounds_toArray, List.set_cons_zero, List.set_cons_succ])
              refine seqU_step (v := undef) rfl (steady_not (by rfl)) ?_
              (try simp only [Act.put, List.setIfInBounds_toArray, List.set_cons_zero, List.set_cons_succ])
              refine seqU_step (v := undef) rfl (steady_not (by rfl)) ?_
              (try simp only [Act.put, List.setIfInBounds_toArray, List.set_cons_zero, List.set_cons_succ])
              refine seqU_step (v := undef) rfl (steady_not (by rfl)) ?_
              (try simp only [Act.put, List.setIfInBounds_toArray, List.set_cons_zero, List.set_cons_succ])
              refine seqU_step (v := undef) rfl (steady_not (by rfl)) ?_
              (try simp only [Act.put, List.setIfInBounds_toArray, List.set_cons_zero, List.set_cons_succ])
              refine seqU_step (v := undef) rfl (steady_not (by rfl)) ?_
              (try simp only [Act.put, List.setIfInBounds_toArray, List.set_cons_zero, List.set_cons_succ])
              refine seqU_step (v := undef) rfl (steady_not (by rfl)) ?_
              (try simp only [Act.put, List.setIfInBounds_toArray, List.set_cons_zero, List.set_cons_succ])
              refine seqU_step (v := undef) rfl (steady_not (by rfl)) ?_
              (try simp only [Act.put, List.setIfInBounds_toArray, List.set_cons_zero, List.set_cons_succ])
              refine seqU_step (v := undef) rfl (steady_not (by rfl)) ?_
              (try simp only [Act.put, List.setIfInBounds_toArray, List.set_cons_zero, List.set_cons_succ])
              refine seqU_step (v := undef) rfl (steady_not (by rfl)) ?_
              (try simp only [Act.put, List.setIfInBounds_toArray, List.set_cons_zero, List.set_cons_succ])
              refine seqU_step (v := undef) rfl (steady_not (by rfl)) ?_
              (try simp only [Act.put, List.setIfInBounds_toArray, List.set_cons_zero, List.set_cons_succ])
              refine seqU_step (v := undef) rfl (steady_not (by rfl)) ?_
              (try simp only [Act.put, List.setIfInBounds_toArray, List.set_cons_zero, List.set_cons_succ])
              refine seqU_step (v := undef) rfl (steady_not (by rfl)) ?_
              (try simp only [Act.put, List.setIfInBounds_toArray, List.set_cons_zero, List.set_cons_succ])
              refine seqU_step (v := undef) rfl (steady_not (by rfl)) ?_
              (try simp only [Act.put, List.setIfInBounds_toArray, List.set_cons_zero, List.set_cons_succ])
              refine seqU_step (v := undef) rfl (steady_not (by rfl)) ?_
              (try simp only [Act.put, List.setIfInBounds_toArray, List.set_cons_zero, List.set_cons_succ])
              refine seqU_step (v := undef) rfl (steady_not (by rfl)) ?_
              (try simp only [Act.put, List.setIfInBounds_toArray, List.set_cons_zero, List.set_cons_succ])
              refine seqU_step (v := undef) rfl (steady_not (by rfl)) ?_
              (try simp only [Act.put, List.setIfInBounds_toArray, List.set_cons_zero, List.set_cons_succ])
              refine seqU_step (v := undef) rfl (steady_not (by rfl)) ?_
              (try simp only [Act.put, List.setIfInBounds_toArray, List.set_cons_zero, List.set_cons_succ])
              refine seqU_step (v := undef) rfl (steady_not (by rfl)) ?_
              (try simp only [Act.put, List.setIfInBounds_toArray, List.set_cons_zero, List.set_cons_succ])
              refine seqU_step (v := undef) rfl (steady_not (by rfl)) ?_
              (try simp only [Act.put, List.setIfInBounds_toArray, List.set_cons_zero, List.set_cons_succ])
              refine seqU_step (v := undef) rfl (steady_not (by rfl)) ?_
              (try simp only [Act.put, List.setIfInBounds_toArray, List.set_cons_zero, List.set_cons_succ])
              refine seqU_step (v := undef) rfl (steady_not (by rfl)) ?_
              (try simp only [Act.put, List.setIfInBounds_toArray, List.set_cons_zero, List.set_cons_succ])
              refine seqU_step (v := undef) rfl (steady_not (by rfl)) ?_
              (try simp only [Act.put, List.setIfInBounds_toArray, List.set_cons_zero, List.set_cons_succ])
              refine seqU_step (v := undef) rfl (steady_not (by rfl)) ?_
              (try simp only [Act.put, List.setIfInBounds_toArray, List.set_cons_zero, List.set_cons_succ])
              refine seqU_step (v := undef) rfl (steady_not (by rfl)) ?_
              (try simp only [Act.put, List.setIfInBounds_toArray, List.set_cons_zero, List.set_cons_succ])
              refine seqU_step (v := undef) rfl (steady_not (by rfl)) ?_
              (try simp only [Act.put, List.setIfInBounds_toArray, List.set_cons_zero, List.set_cons_succ])
              refine seqU_step (v := undef) rfl (steady_not (by rfl)) ?_
              (try simp only [Act.put, List.setIfInBounds_toArray, List.set_cons_zero, List.set_cons_succ])
              refine seqU_step (v := undef) rfl (steady_not (by rfl)) ?_
              (try simp only [Act.put, List.setIfInBounds_toArray, List.set_cons_zero, List.set_cons_succ])
              refine seqU_step (v := undef) rfl (steady_not (by rfl)) ?_
              (try simp only [Act.put, List.setIfInBounds_toArray, List.set_cons_zero, List.set_cons_succ])
              refine seqU_step (v := undef) rfl (steady_not (by rfl)) ?_
              (try simp only [Act.put, List.setIfInBounds_toArray, List.set_cons_zero, List.set_cons_succ])
              refine seqU_step (v := undef) rfl (steady_not (by rfl)) ?_
              (try simp only [Act.put, List.setIfInBounds_toArray, List.set_cons_zero, List.set_cons_succ])
              refine seqU_step (v := undef) rfl (steady_not (by rfl)) ?_
              (try simp only [Act.put, List.setIfInBounds_toArray, List.set_cons_zero, List.set_cons_succ])
              refine seqU_step (v := ?_) rfl (steady_val (by rfl) ?_) ?_
              rotate_left
              · intro w hSw
                (try dsimp only at hSw)
                go_simp
                with_reducible rfl
              (try simp only [Act.put, List.setIfInBounds_toArray, List.set_cons_zero, List.set_cons_succ])
              refine seqU_step (v := ?_) rfl (steady_val (by rfl) ?_) ?_
              rotate_left
              · intro w hSw
                (try dsimp only at hSw)
                go_simp
                with_reducible rfl
              (try simp only [Act.put, List.setIfInBounds_toArray, List.set_cons_zero, List.set_cons_succ])
              refine seqU_step (v := undef) rfl (steady_not (by rfl)) ?_
              (try simp only [Act.put, List.setIfInBounds_toArray, List.set_cons_zero, List.set_cons_succ])
              refine seqU_step (v := undef) rfl (steady_not (by rfl)) ?_
              (try simp only [Act.put, List.setIfInBounds_toArray, List.set_cons_zero, List.set_cons_succ])
              refine seqU_step (v := undef) rfl (steady_not (by rfl)) ?_
              (try simp only [Act.put, List.setIfInBounds_toArray, List.set_cons_zero, List.set_cons_succ])
              refine seqU_step (v := undef) rfl (steady_not (by rfl)) ?_
              (try simp only [Act.put, List.setIfInBounds_toArray, List.set_cons_zero, List.set_cons_succ])
              refine seqU_step (v := undef) rfl (steady_not (by rfl)) ?_
              (try simp only [Act.put, List.setIfInBounds_toArray, List.set_cons_zero, List.set_cons_succ])
              refine seqU_step (v := undef) rfl (steady_not (by rfl)) ?_
              (try simp only [Act.put, List.setIfInBounds_toArray, List.set_cons_zero, List.set_cons_succ])
              refine seqU_step (v := undef) rfl (steady_not (by rfl)) ?_
              (try simp only [Act.put, List.setIfInBounds_toArray, List.set_cons_zero, List.set_cons_succ])
              refine seqU_step (v := undef) rfl (steady_not (by rfl)) ?_
              (try simp only [Act.put, List.setIfInBounds_toArray, List.set_cons_zero, List.set_cons_succ])
              refine seqU_step (v := undef) rfl (steady_not (by rfl)) ?_
              (try simp only [Act.put, List.setIfInBounds_toArray, List.set_cons_zero, List.set_cons_succ])
              refine seqU_step (v := undef) rfl (steady_not (by rfl)) ?_
              (try simp only [Act.put, List.setIfInBounds_toArray, List.set_cons_zero, List.set_cons_succ])
              refine seqU_step (v := undef) rfl (steady_not (by rfl)) ?_
              (try simp only [Act.put, List.setIfInBounds_toArray, List.set_cons_zero, List.set_cons_succ])
              refine seqU_step (v := ?_) rfl (steady_val (by rfl) ?_) ?_
              rotate_left
              · intro w hSw
                (try dsimp only at hSw)
                go_simp
                with_reducible rfl
              (try simp only [Act.put, List.setIfInBounds_toArray, List.set_cons_zero, List.set_cons_succ])
              refine seqU_step (v := ?_) rfl (steady_val (by rfl) ?_) ?_
              rotate_left
              · intro w hSw
                (try dsimp only at hSw)
                go_simp
                with_reducible rfl
              (try simp only [Act.put, List.setIfInBounds_toArray, List.set_cons_zero, List.set_cons_succ])
              refine seqU_done (fun w' hS => ?_)
              have HBQ := Lib.hid (heldB8 hS)
              clear hS
              go_wp2_with (fail)
              go_meet
              case rel => exact ⟨true, rfl, Lib.hid (fun _ => HAPT.out), HBQ⟩
          · by_cases c1 : a = a2
            · have LKA := Lib.hid (fun w' => (by have q := linkd_any k a b x w'; rw [show decide (k ≤ 5) = false by simp; omega] at q; exact q : Calls Try.prog 21 #[.agg #[.int .i64 k, .int .i64 a, .int .i64 b, .float .f64 x]] w' fun e w2 => e = .returned (.bool false) ∧ Below w'.heap.size w' w2))
              have LKB := Lib.hid (fun w' => (by have q := linkd_any k2 a2 b2 x2 w'; rw [show decide (k2 ≤ 5) = false by simp; omega] at q; exact q : Calls Try.prog 21 #[.agg #[.int .i64 k2, .int .i64 a2, .int .i64 b2, .float .f64 x2]] w' fun e w2 => e = .returned (.bool false) ∧ Below w'.heap.size w' w2))
              have c1' : (a == a2) = true := by rw [beq_iff_eq]; exact c1
              have c1'' : (a != a2) = false := by simp; exact c1
              clear la lb c1 GG0
              clear HAP HBP HL1 HL2 HN HL HWL HX HE1 HEI HPL HY1 HY2 HY3 HB1 GAT HB2 HZ1 HZ2 HZ3 HP1 HP2 HT HA1 HA2 HA3 HQ1 HQ2 HAB HC3 HC3d BX1 BX7 BX2 BX3 BXN BXW BXG HK33
              as_aux_lemma =>
                refine wp_region_seq (by kernel_rfl) (by as_aux_lemma => kernel_rfl) (fun w' => w'.cell? ⟨g2, 0, none⟩ = some (.int .i64 k) ∧ w'.cell? ⟨g2, 1, none⟩ = some (.int .i64 a) ∧ w'.cell? ⟨g2, 2, none⟩ = some (.int .i64 b) ∧ w'.cell? ⟨g2, 3, none⟩ = some (.float .f64 x) ∧ w'.cell? ⟨g3, 0, none⟩ = some (.int .i64 k2) ∧ w'.cell? ⟨g3, 1, none⟩ = some (.int .i64 a2) ∧ w'.cell? ⟨g3, 2, none⟩ = some (.int .i64 b2) ∧ w'.cell? ⟨g3, 3, none⟩ = some (.float .f64 x2) ∧ Below wt.heap.size wt w') HS8.out ?_
                refine seqU_step (v := ?_) rfl (steady_val (by rfl) ?_) ?_
                rotate_left
                · intro w hSw
                  (try dsimp only at hSw)
                  go_simp
                  with_reducible rfl
                (try simp only [Act.put, List.setIfInBounds_toArray, List.set_cons_zero, List.set_cons_succ])
                refine seqU_step (v := ?_) rfl (steady_val (by rfl) ?_) ?_
                rotate_left
                · intro w hSw
                  (try dsimp only at hSw)
                  go_simp
                  with_reducible rfl
                (try simp only [Act.put, List.setIfInBounds_toArray, List.set_cons_zero, List.set_cons_succ])
                refine seqU_step (v := .bool false) rfl (steady_call (f := 21) (by rfl) ?_ (fun w hS => (LKA.out w).mono (fun e w' h => ⟨h.1, held_keep8 hS h.2⟩))) ?_
                · intro w hSw
                  go_simp
                (try simp only [Act.put, List.setIfInBounds_toArray, List.set_cons_zero, List.set_cons_succ])
                refine seqU_step (v := ?_) rfl (steady_val (by rfl) ?_) ?_
                rotate_left
                · intro w hSw
                  (try dsimp only at hSw)
                  go_simp
                  with_reducible rfl
                (try simp only [Act.put, List.setIfInBounds_toArray, List.set_cons_zero, List.set_cons_succ])
                refine seqU_step (v := ?_) rfl (steady_val (by rfl) ?_) ?_
                rotate_left
                · intro w hSw
                  (try dsimp only at hSw)
                  go_simp
                  with_reducible rfl
                (try simp only [Act.put, List.setIfInBounds_toArray, List.set_cons_zero, List.set_cons_succ])
                refine seqU_step (v := .bool false) rfl (steady_call (f := 21) (by rfl) ?_ (fun w hS => (LKB.out w).mono (fun e w' h => ⟨h.1, held_keep8 hS h.2⟩))) ?_
                · intro w hSw
                  go_simp
                (try simp only [Act.put, List.setIfInBounds_toArray, List.set_cons_zero, List.set_cons_succ])
                refine seqU_step (v := ?_) rfl (steady_val (by rfl) ?_) ?_
                rotate_left
                · intro w hSw
                  (try dsimp only at hSw)
                  go_simp
                  with_reducible rfl
                (try simp only [Act.put, List.setIfInBounds_toArray, List.set_cons_zero, List.set_cons_succ])
                refine seqU_step (v := ?_) rfl (steady_val (by rfl) ?_) ?_
                rotate_left
                · intro w hSw
                  (try dsimp only at hSw)
                  go_simp
                  with_reducible rfl
                (try simp only [Act.put, List.setIfInBounds_toArray, List.set_cons_zero, List.set_cons_succ])
                refine seqU_step (v := ?_) rfl (steady_val (by rfl) ?_) ?_
                rotate_left
                · intro w hSw
                  (try dsimp only at hSw)
                  go_simp
                  with_reducible rfl
                (try simp only [Act.put, List.setIfInBounds_toArray, List.set_cons_zero, List.set_cons_succ])
                refine seqU_step (v := ?_) rfl (steady_val (by rfl) ?_) ?_
                rotate_left
                · intro w hSw
                  (try dsimp only at hSw)
                  go_simp
                  with_reducible rfl
                (try simp only [Act.put, List.setIfInBounds_toArray, List.set_cons_zero, List.set_cons_succ])
                refine seqU_step (v := .bool false) rfl (steady_call (f := 21) (by rfl) ?_ (fun w hS => (LKA.out w).mono (fun e w' h => ⟨h.1, held_keep8 hS h.2⟩))) ?_
                · intro w hSw
                  go_simp
                (try simp only [Act.put, List.setIfInBounds_toArray, List.set_cons_zero, List.set_cons_succ])
                refine seqU_step (v := ?_) rfl (steady_val (by rfl) ?_) ?_
                rotate_left
                · intro w hSw
                  (try dsimp only at hSw)
                  go_simp
                  with_reducible rfl
                (try simp only [Act.put, List.setIfInBounds_toArray, List.set_cons_zero, List.set_cons_succ])
                refine seqU_step (v := undef) rfl (steady_not (by rfl)) ?_
                (try simp only [Act.put, List.setIfInBounds_toArray, List.set_cons_zero, List.set_cons_succ])
                refine seqU_step (v := undef) rfl (steady_not (by rfl)) ?_
                (try simp only [Act.put, List.setIfInBounds_toArray, List.set_cons_zero, List.set_cons_succ])
                refine seqU_step (v := undef) rfl (steady_not (by rfl)) ?_
                (try simp only [Act.put, List.setIfInBounds_toArray, List.set_cons_zero, List.set_cons_succ])
                refine seqU_step (v := undef) rfl (steady_not (by rfl)) ?_
                (try simp only [Act.put, List.setIfInBounds_toArray, List.set_cons_zero, List.set_cons_succ])
                refine seqU_step (v := undef) rfl (steady_not (by rfl)) ?_
                (try simp only [Act.put, List.setIfInBounds_toArray, List.set_cons_zero, List.set_cons_succ])
                refine seqU_step (v := undef) rfl (steady_not (by rfl)) ?_
                (try simp only [Act.put, List.setIfInBounds_toArray, List.set_cons_zero, List.set_cons_succ])
                refine seqU_step (v := undef) rfl (steady_not (by rfl)) ?_
                (try simp only [Act.put, List.setIfInBounds_toArray, List.set_cons_zero, List.set_cons_succ])
                refine seqU_step (v := undef) rfl (steady_not (by rfl)) ?_
                (try simp only [Act.put, List.setIfInBounds_toArray, List.set_cons_zero, List.set_cons_succ])
                refine seqU_step (v := undef) rfl (steady_not (by rfl)) ?_
                (try simp only [Act.put, List.setIfInBounds_toArray, List.set_cons_zero, List.set_cons_succ])
                refine seqU_step (v := undef) rfl (steady_not (by rfl)) ?_
                (try simp only [Act.put, List.setIfInBounds_toArray, List.set_cons_zero, List.set_cons_succ])
                refine seqU_step (v := undef) rfl (steady_not (by rfl)) ?_
                (try simp only [Act.put, List.setIfInBounds_toArray, List.set_cons_zero, List.set_cons_succ])
                refine seqU_step (v := undef) rfl (steady_not (by rfl)) ?_
                (try simp only [Act.put, List.setIfInBounds_toArray, List.set_cons_zero, List.set_cons_succ])
                refine seqU_step (v := undef) rfl (steady_not (by rfl)) ?_
                (try simp only [Act.put, List.setIfInBounds_toArray, List.set_cons_zero, List.set_cons_succ])
                refine seqU_step (v := undef) rfl (steady_not (by rfl)) ?_
                (try simp only [Act.put, List.setIfInBounds_toArray, List.set_cons_zero, List.set_cons_succ])
                refine seqU_step (v := undef) rfl (steady_not (by rfl)) ?_
                (try simp only [Act.put, List.setIfInBounds_toArray, List.set_cons_zero, List.set_cons_succ])
                refine seqU_step (v := undef) rfl (steady_not (by rfl)) ?_
                (try simp only [Act.put, List.setIfInBounds_toArray, List.set_cons_zero, List.set_cons_succ])
                refine seqU_step (v := undef) rfl (steady_not (by rfl)) ?_
                (try simp only [Act.put, List.setIfInBounds_toArray, List.set_cons_zero, List.set_cons_succ])
                refine seqU_step (v := undef) rfl (steady_not (by rfl)) ?_
                (try simp only [Act.put, List.setIfInBounds_toArray, List.set_cons_zero, List.set_cons_succ])
                refine seqU_step (v := undef) rfl (steady_not (by rfl)) ?_
                (try simp only [Act.put, List.setIfInBounds_toArray, List.set_cons_zero, List.set_cons_succ])
                refine seqU_step (v := undef) rfl (steady_not (by rfl)) ?_
                (try simp only [Act.put, List.setIfInBounds_toArray, List.set_cons_zero, List.set_cons_succ])
                refine seqU_step (v := undef) rfl (steady_not (by rfl)) ?_
                (try simp only [Act.put, List.setIfInBounds_toArray, List.set_cons_zero, List.set_cons_succ])
                refine seqU_step (v := undef) rfl (steady_not (by rfl)) ?_
                (try simp only [Act.put, List.setIfInBounds_toArray, List.set_cons_zero, List.set_cons_succ])
                refine seqU_step (v := undef) rfl (steady_not (by rfl)) ?_
                (try simp only [Act.put, List.setIfInBounds_toArray, List.set_cons_zero, List.set_cons_succ])
                refine seqU_step (v := undef) rfl (steady_not (by rfl)) ?_
                (try simp only [Act.put, List.setIfInBounds_toArray, List.set_cons_zero, List.set_cons_succ])
                refine seqU_step (v := undef) rfl (steady_not (by rfl)) ?_
                (try simp only [Act.put, List.setIfInBounds_toArray, List.set_cons_zero, List.set_cons_succ])
                refine seqU_step (v := undef) rfl (steady_not (by rfl)) ?_
                (try simp only [Act.put, List.setIfInBounds_toArray, List.set_cons_zero, List.set_cons_succ])
                refine seqU_step (v := undef) rfl (steady_not (by rfl)) ?_
                (try simp only [Act.put, List.setIfInBounds_toArray, List.set_cons_zero, List.set_cons_succ])
                refine seqU_step (v := ?_) rfl (steady_val (by rfl) ?_) ?_
                rotate_left
                · intro w hSw
                  (try dsimp only at hSw)
                  go_simp
                  with_reducible rfl
                (try simp only [Act.put, List.setIfInBounds_toArray, List.set_cons_zero, List.set_cons_succ])
                refine seqU_step (v := ?_) rfl (steady_val (by rfl) ?_) ?_
                rotate_left
                · intro w hSw
                  (try dsimp only at hSw)
                  go_simp
                  with_reducible rfl
                (try simp only [Act.put, List.setIfInBounds_toArray, List.set_cons_zero, List.set_cons_succ])
                refine seqU_step (v := ?_) rfl (steady_val (by rfl) ?_) ?_
                rotate_left
                · intro w hSw
                  (try dsimp only at hSw)
                  go_simp
                  with_reducible rfl
                (try simp only [Act.put, List.setIfInBounds_toArray, List.set_cons_zero, List.set_cons_succ])
                refine seqU_step (v := ?_) rfl (steady_val (by rfl) ?_) ?_
                rotate_left
                · intro w hSw
                  (try dsimp only at hSw)
                  go_simp
                  with_reducible rfl
                (try simp only [Act.put, List.setIfInBounds_toArray, List.set_cons_zero, List.set_cons_succ])
                refine seqU_step (v := ?_) rfl (steady_val (by rfl) ?_) ?_
                rotate_left
                · intro w hSw
                  (try dsimp only at hSw)
                  go_simp
                  with_reducible rfl
                (try simp only [Act.put, List.setIfInBounds_toArray, List.set_cons_zero, List.set_cons_succ])
                refine seqU_step (v := .bool false) rfl (steady_call (f := 21) (by rfl) ?_ (fun w hS => (LKA.out w).mono (fun e w' h => ⟨h.1, held_keep8 hS h.2⟩))) ?_
                · intro w hSw
                  go_simp
                (try simp only [Act.put, List.setIfInBounds_toArray, List.set_cons_zero, List.set_cons_succ])
                refine seqU_step (v := ?_) rfl (steady_val (by rfl) ?_) ?_
                rotate_left
                · intro w hSw
                  (try dsimp only at hSw)
                  go_simp
                  with_reducible rfl
                (try simp only [Act.put, List.setIfInBounds_toArray, List.set_cons_zero, List.set_cons_succ])
                refine seqU_step (v := ?_) rfl (steady_val (by rfl) ?_) ?_
                rotate_left
                · intro w hSw
                  (try dsimp only at hSw)
                  go_simp
                  with_reducible rfl
                (try simp only [Act.put, List.setIfInBounds_toArray, List.set_cons_zero, List.set_cons_succ])
                refine seqU_step (v := ?_) rfl (steady_val (by rfl) ?_) ?_
                rotate_left
                · intro w hSw
                  (try dsimp only at hSw)
                  go_simp
                  with_reducible rfl
                (try simp only [Act.put, List.setIfInBounds_toArray, List.set_cons_zero, List.set_cons_succ])
                refine seqU_step (v := ?_) rfl (steady_val (by rfl) ?_) ?_
                rotate_left
                · intro w hSw
                  (try dsimp only at hSw)
                  go_simp
                  with_reducible rfl
                (try simp only [Act.put, List.setIfInBounds_toArray, List.set_cons_zero, List.set_cons_succ])
                refine seqU_step (v := ?_) rfl (steady_val (by rfl) ?_) ?_
                rotate_left
                · intro w hSw
                  (try dsimp only at hSw)
                  go_simp
                  with_reducible rfl
                (try simp only [Act.put, List.setIfInBounds_toArray, List.set_cons_zero, List.set_cons_succ])
                refine seqU_step (v := ?_) rfl (steady_val (by rfl) ?_) ?_
                rotate_left
                · intro w hSw
                  (try dsimp only at hSw)
                  go_simp
                  with_reducible rfl
                (try simp only [Act.put, List.setIfInBounds_toArray, List.set_cons_zero, List.set_cons_succ])
                refine seqU_step (v := ?_) rfl (steady_val (by rfl) ?_) ?_
                rotate_left
                · intro w hSw
                  (try dsimp only at hSw)
                  go_simp
                  with_reducible rfl
                (try simp only [Act.put, List.setIfInBounds_toArray, List.set_cons_zero, List.set_cons_succ])
                refine seqU_step (v := ?_) rfl (steady_val (by rfl) ?_) ?_
                rotate_left
                · intro w hSw
                  (try dsimp only at hSw)
                  go_simp
                  with_reducible rfl
                (try simp only [Act.put, List.setIfInBounds_toArray, List.set_cons_zero, List.set_cons_succ])
                refine seqU_step (v := ?_) rfl (steady_val (by rfl) ?_) ?_
                rotate_left
                · intro w hSw
                  (try dsimp only at hSw)
                  go_simp
                  with_reducible rfl
                (try simp only [Act.put, List.setIfInBounds_toArray, List.set_cons_zero, List.set_cons_succ])
                refine seqU_step (v := ?_) rfl (steady_val (by rfl) ?_) ?_
                rotate_left
                · intro w hSw
                  (try dsimp only at hSw)
                  go_simp
                  with_reducible rfl
                (try simp only [Act.put, List.setIfInBounds_toArray, List.set_cons_zero, List.set_cons_succ])
                refine seqU_done (fun w' hS => ?_)
                have HBQ := Lib.hid (heldB8 hS)
                clear hS
                go_wp2_with (fail)
                go_meet
                case rel => exact ⟨false, rfl, Lib.hid (fun h => by cases h), HBQ⟩
            · have HAPT := Lib.hid (show apart k a b k2 a2 b2 by unfold apart; omega)
              have LKA := Lib.hid (fun w' => (by have q := linkd_any k a b x w'; rw [show decide (k ≤ 5) = false by simp; omega] at q; exact q : Calls Try.prog 21 #[.agg #[.int .i64 k, .int .i64 a, .int .i64 b, .float .f64 x]] w' fun e w2 => e = .returned (.bool false) ∧ Below w'.heap.size w' w2))
              have LKB := Lib.hid (fun w' => (by have q := linkd_any k2 a2 b2 x2 w'; rw [show decide (k2 ≤ 5) = false by simp; omega] at q; exact q : Calls Try.prog 21 #[.agg #[.int .i64 k2, .int .i64 a2, .int .i64 b2, .float .f64 x2]] w' fun e w2 => e = .returned (.bool false) ∧ Below w'.heap.size w' w2))
              have c1' : (a == a2) = false := by rw [beq_eq_false_iff_ne]; exact c1
              have c1'' : (a != a2) = true := by simp; exact c1
              clear la lb c1 GG0
              clear HAP HBP HL1 HL2 HN HL HWL HX HE1 HEI HPL HY1 HY2 HY3 HB1 GAT HB2 HZ1 HZ2 HZ3 HP1 HP2 HT HA1 HA2 HA3 HQ1 HQ2 HAB HC3 HC3d BX1 BX7 BX2 BX3 BXN BXW BXG HK33
              as_aux_lemma =>
                refine wp_region_seq (by kernel_rfl) (by as_aux_lemma => kernel_rfl) (fun w' => w'.cell? ⟨g2, 0, none⟩ = some (.int .i64 k) ∧ w'.cell? ⟨g2, 1, none⟩ = some (.int .i64 a) ∧ w'.cell? ⟨g2, 2, none⟩ = some (.int .i64 b) ∧ w'.cell? ⟨g2, 3, none⟩ = some (.float .f64 x) ∧ w'.cell? ⟨g3, 0, none⟩ = some (.int .i64 k2) ∧ w'.cell? ⟨g3, 1, none⟩ = some (.int .i64 a2) ∧ w'.cell? ⟨g3, 2, none⟩ = some (.int .i64 b2) ∧ w'.cell? ⟨g3, 3, none⟩ = some (.float .f64 x2) ∧ Below wt.heap.size wt w') HS8.out ?_
                refine seqU_step (v := ?_) rfl (steady_val (by rfl) ?_) ?_
                rotate_left
                · intro w hSw
                  (try dsimp only at hSw)
                  go_simp
                  with_reducible rfl
                (try simp only [Act.put, List.setIfInBounds_toArray, List.set_cons_zero, List.set_cons_succ])
                refine seqU_step (v := ?_) rfl (steady_val (by rfl) ?_) ?_
                rotate_left
                · intro w hSw
                  (try dsimp only at hSw)
                  go_simp
                  with_reducible rfl
                (try simp only [Act.put, List.setIfInBounds_toArray, List.set_cons_zero, List.set_cons_succ])
                refine seqU_step (v := .bool false) rfl (steady_call (f := 21) (by rfl) ?_ (fun w hS => (LKA.out w).mono (fun e w' h => ⟨h.1, held_keep8 hS h.2⟩))) ?_
                · intro w hSw
                  go_simp
                (try simp only [Act.put, List.setIfInBounds_toArray, List.set_cons_zero, List.set_cons_succ])
                refine seqU_step (v := ?_) rfl (steady_val (by rfl) ?_) ?_
                rotate_left
                · intro w hSw
                  (try dsimp only at hSw)
                  go_simp
                  with_reducible rfl
                (try simp only [Act.put, List.setIfInBounds_toArray, List.set_cons_zero, List.set_cons_succ])
                refine seqU_step (v := ?_) rfl (steady_val (by rfl) ?_) ?_
                rotate_left
                · intro w hSw
                  (try dsimp only at hSw)
                  go_simp
                  with_reducible rfl
                (try simp only [Act.put, List.setIfInBounds_toArray, List.set_cons_zero, List.set_cons_succ])
                refine seqU_step (v := .bool false) rfl (steady_call (f := 21) (by rfl) ?_ (fun w hS => (LKB.out w).mono (fun e w' h => ⟨h.1, held_keep8 hS h.2⟩))) ?_
                · intro w hSw
                  go_simp
                (try simp only [Act.put, List.setIfInBounds_toArray, List.set_cons_zero, List.set_cons_succ])
                refine seqU_step (v := ?_) rfl (steady_val (by rfl) ?_) ?_
                rotate_left
                · intro w hSw
                  (try dsimp only at hSw)
                  go_simp
                  with_reducible rfl
                (try simp only [Act.put, List.setIfInBounds_toArray, List.set_cons_zero, List.set_cons_succ])
                refine seqU_step (v := ?_) rfl (steady_val (by rfl) ?_) ?_
                rotate_left
                · intro w hSw
                  (try dsimp only at hSw)
                  go_simp
                  with_reducible rfl
                (try simp only [Act.put, List.setIfInBounds_toArray, List.set_cons_zero, List.set_cons_succ])
                refine seqU_step (v := ?_) rfl (steady_val (by rfl) ?_) ?_
                rotate_left
                · intro w hSw
                  (try dsimp only at hSw)
                  go_simp
                  with_reducible rfl
                (try simp only [Act.put, List.setIfInBounds_toArray, List.set_cons_zero, List.set_cons_succ])
                refine seqU_step (v := ?_) rfl (steady_val (by rfl) ?_) ?_
                rotate_left
                · intro w hSw
                  (try dsimp only at hSw)
                  go_simp
                  with_reducible rfl
                (try simp only [Act.put, List.setIfInBounds_toArray, List.set_cons_zero, List.set_cons_succ])
                refine seqU_step (v := .bool false) rfl (steady_call (f := 21) (by rfl) ?_ (fun w hS => (LKA.out w).mono (fun e w' h => ⟨h.1, held_keep8 hS h.2⟩))) ?_
                · intro w hSw
                  go_simp
                (try simp only [Act.put, List.setIfInBounds_toArray, List.set_cons_zero, List.set_cons_succ])
                refine seqU_step (v := ?_) rfl (steady_val (by rfl) ?_) ?_
                rotate_left
                · intro w hSw
                  (try dsimp only at hSw)
                  go_simp
                  with_reducible rfl
                (try simp only [Act.put, List.setIfInBounds_toArray, List.set_cons_zero, List.set_cons_succ])
                refine seqU_step (v := undef) rfl (steady_not (by rfl)) ?_
                (try simp only [Act.put, List.setIfInBounds_toArray, List.set_cons_zero, List.set_cons_succ])
                refine seqU_step (v := undef) rfl (steady_not (by rfl)) ?_
                (try simp only [Act.put, List.setIfInBounds_toArray, List.set_cons_zero, List.set_cons_succ])
                refine seqU_step (v := undef) rfl (steady_not (by rfl)) ?_
                (try simp only [Act.put, List.setIfInBounds_toArray, List.set_cons_zero, List.set_cons_succ])
                refine seqU_step (v := undef) rfl (steady_not (by rfl)) ?_
                (try simp only [Act.put, List.setIfInBounds_toArray, List.set_cons_zero, List.set_cons_succ])
                refine seqU_step (v := undef) rfl (steady_not (by rfl)) ?_
                (try simp only [Act.put, List.setIfInBounds_toArray, List.set_cons_zero, List.set_cons_succ])
                refine seqU_step (v := undef) rfl (steady_not (by rfl)) ?_
                (try simp only [Act.put, List.setIfInBounds_toArray, List.set_cons_zero, List.set_cons_succ])
                refine seqU_step (v := undef) rfl (steady_not (by rfl)) ?_
                (try simp only [Act.put, List.setIfInBounds_toArray, List.set_cons_zero, List.set_cons_succ])
                refine seqU_step (v := undef) rfl (steady_not (by rfl)) ?_
                (try simp only [Act.put, List.setIfInBounds_toArray, List.set_cons_zero, List.set_cons_succ])
                refine seqU_step (v := undef) rfl (steady_not (by rfl)) ?_
                (try simp only [Act.put, List.setIfInBounds_toArray, List.set_cons_zero, List.set_cons_succ])
                refine seqU_step (v := undef) rfl (steady_not (by rfl)) ?_
                (try simp only [Act.put, List.setIfInBounds_toArray, List.set_cons_zero, List.set_cons_succ])
                refine seqU_step (v := undef) rfl (steady_not (by rfl)) ?_
                (try simp only [Act.put, List.setIfInBounds_toArray, List.set_cons_zero, List.set_cons_succ])
                refine seqU_step (v := undef) rfl (steady_not (by rfl)) ?_
                (try simp only [Act.put, List.setIfInBounds_toArray, List.set_cons_zero, List.set_cons_succ])
                refine seqU_step (v := undef) rfl (steady_not (by rfl)) ?_
                (try simp only [Act.put, List.setIfInBounds_toArray, List.set_cons_zero, List.set_cons_succ])
                refine seqU_step (v := undef) rfl (steady_not (by rfl)) ?_
                (try simp only [Act.put, List.setIfInBounds_toArray, List.set_cons_zero, List.set_cons_succ])
                refine seqU_step (v := undef) rfl (steady_not (by rfl)) ?_
                (try simp only [Act.put, List.setIfInBounds_toArray, List.set_cons_zero, List.set_cons_succ])
                refine seqU_step (v := undef) rfl (steady_not (by rfl)) ?_
                (try simp only [Act.put, List.setIfInBounds_toArray, List.set_cons_zero, List.set_cons_succ])
                refine seqU_step (v := undef) rfl (steady_not (by rfl)) ?_
                (try simp only [Act.put, List.setIfInBounds_toArray, List.set_cons_zero, List.set_cons_succ])
                refine seqU_step (v := undef) rfl (steady_not (by rfl)) ?_
                (try simp only [Act.put, List.setIfInBounds_toArray, List.set_cons_zero, List.set_cons_succ])
                refine seqU_step (v := undef) rfl (steady_not (by rfl)) ?_
                (try simp only [Act.put, List.setIfInBounds_toArray, List.set_cons_zero, List.set_cons_succ])
                refine seqU_step (v := undef) rfl (steady_not (by rfl)) ?_
                (try simp only [Act.put, List.setIfInBounds_toArray, List.set_cons_zero, List.set_cons_succ])
                refine seqU_step (v := undef) rfl (steady_not (by rfl)) ?_
                (try simp only [Act.put, List.setIfInBounds_toArray, List.set_cons_zero, List.set_cons_succ])
                refine seqU_step (v := undef) rfl (steady_not (by rfl)) ?_
                (try simp only [Act.put, List.setIfInBounds_toArray, List.set_cons_zero, List.set_cons_succ])
                refine seqU_step (v := undef) rfl (steady_not (by rfl)) ?_
                (try simp only [Act.put, List.setIfInBounds_toArray, List.set_cons_zero, List.set_cons_succ])
                refine seqU_step (v := undef) rfl (steady_not (by rfl)) ?_
                (try simp only [Act.put, List.setIfInBounds_toArray, List.set_cons_zero, List.set_cons_succ])
                refine seqU_step (v := undef) rfl (steady_not (by rfl)) ?_
                (try simp only [Act.put, List.setIfInBounds_toArray, List.set_cons_zero, List.set_cons_succ])
                refine seqU_step (v := undef) rfl (steady_not (by rfl)) ?_
                (try simp only [Act.put, List.setIfInBounds_toArray, List.set_cons_zero, List.set_cons_succ])
                refine seqU_step (v := undef) rfl (steady_not (by rfl)) ?_
                (try simp only [Act.put, List.setIfInBounds_toArray, List.set_cons_zero, List.set_cons_succ])
                refine seqU_step (v := ?_) rfl (steady_val (by rfl) ?_) ?_
                rotate_left
                · intro w hSw
                  (try dsimp only at hSw)
                  go_simp
                  with_reducible rfl
                (try simp only [Act.put, List.setIfInBounds_toArray, List.set_cons_zero, List.set_cons_succ])
                refine seqU_step (v := ?_) rfl (steady_val (by rfl) ?_) ?_
                rotate_left
                · intro w hSw
                  (try dsimp only at hSw)
                  go_simp
                  with_reducible rfl
                (try simp only [Act.put, List.setIfInBounds_toArray, List.set_cons_zero, List.set_cons_succ])
                refine seqU_step (v := ?_) rfl (steady_val (by rfl) ?_) ?_
                rotate_left
                · intro w hSw
                  (try dsimp only at hSw)
                  go_simp
                  with_reducible rfl
                (try simp only [Act.put, List.setIfInBounds_toArray, List.set_cons_zero, List.set_cons_succ])
                refine seqU_step (v := ?_) rfl (steady_val (by rfl) ?_) ?_
                rotate_left
                · intro w hSw
                  (try dsimp only at hSw)
                  go_simp
                  with_reducible rfl
                (try simp only [Act.put, List.setIfInBounds_toArray, List.set_cons_zero, List.set_cons_succ])
                refine seqU_step (v := ?_) rfl (steady_val (by rfl) ?_) ?_
                rotate_left
                · intro w hSw
                  (try dsimp only at hSw)
                  go_simp
                  with_reducible rfl
                (try simp only [Act.put, List.setIfInBounds_toArray, List.set_cons_zero, List.set_cons_succ])
                refine seqU_step (v := .bool false) rfl (steady_call (f := 21) (by rfl) ?_ (fun w hS => (LKA.out w).mono (fun e w' h => ⟨h.1, held_keep8 hS h.2⟩))) ?_
                · intro w hSw
                  go_simp
                (try simp only [Act.put, List.setIfInBounds_toArray, List.set_cons_zero, List.set_cons_succ])
                refine seqU_step (v := ?_) rfl (steady_val (by rfl) ?_) ?_
                rotate_left
                · intro w hSw
                  (try dsimp only at hSw)
                  go_simp
                  with_reducible rfl
                (try simp only [Act.put, List.setIfInBounds_toArray, List.set_cons_zero, List.set_cons_succ])
                refine seqU_step (v := ?_) rfl (steady_val (by rfl) ?_) ?_
                rotate_left
                · intro w hSw
                  (try dsimp only at hSw)
                  go_simp
                  with_reducible rfl
                (try simp only [Act.put, List.setIfInBounds_toArray, List.set_cons_zero, List.set_cons_succ])
                refine seqU_step (v := ?_) rfl (steady_val (by rfl) ?_) ?_
                rotate_left
                · intro w hSw
                  (try dsimp only at hSw)
                  go_simp
                  with_reducible rfl
                (try simp only [Act.put, List.setIfInBounds_toArray, List.set_cons_zero, List.set_cons_succ])
                refine seqU_step (v := ?_) rfl (steady_val (by rfl) ?_) ?_
                rotate_left
                · intro w hSw
                  (try dsimp only at hSw)
                  go_simp
                  with_reducible rfl
                (try simp only [Act.put, List.setIfInBounds_toArray, List.set_cons_zero, List.set_cons_succ])
                refine seqU_step (v := ?_) rfl (steady_val (by rfl) ?_) ?_
                rotate_left
                · intro w hSw
                  (try dsimp only at hSw)
                  go_simp
                  with_reducible rfl
                (try simp only [Act.put, List.setIfInBounds_toArray, List.set_cons_zero, List.set_cons_succ])
                refine seqU_step (v := ?_) rfl (steady_val (by rfl) ?_) ?_
                rotate_left
                · intro w hSw
                  (try dsimp only at hSw)
                  go_simp
                  with_reducible rfl
                (try simp only [Act.put, List.setIfInBounds_toArray, List.set_cons_zero, List.set_cons_succ])
                refine seqU_step (v := ?_) rfl (steady_val (by rfl) ?_) ?_
                rotate_left
                · intro w hSw
                  (try dsimp only at hSw)
                  go_simp
                  with_reducible rfl
                (try simp only [Act.put, List.setIfInBounds_toArray, List.set_cons_zero, List.set_cons_succ])
                refine seqU_step (v := ?_) rfl (steady_val (by rfl) ?_) ?_
                rotate_left
                · intro w hSw
                  (try dsimp only at hSw)
                  go_simp
                  with_reducible rfl
                (try simp only [Act.put, List.setIfInBounds_toArray, List.set_cons_zero, List.set_cons_succ])
                refine seqU_step (v := ?_) rfl (steady_val (by rfl) ?_) ?_
                rotate_left
                · intro w hSw
                  (try dsimp only at hSw)
                  go_simp
                  with_reducible rfl
                (try simp only [Act.put, List.setIfInBounds_toArray, List.set_cons_zero, List.set_cons_succ])
                refine seqU_step (v := ?_) rfl (steady_val (by rfl) ?_) ?_
                rotate_left
                · intro w hSw
                  (try dsimp only at hSw)
                  go_simp
                  with_reducible rfl
                (try simp only [Act.put, List.setIfInBounds_toArray, List.set_cons_zero, List.set_cons_succ])
                refine seqU_done (fun w' hS => ?_)
                have HBQ := Lib.hid (heldB8 hS)
                clear hS
                go_wp2_with (fail)
                go_meet
                case rel => exact ⟨true, rfl, Lib.hid (fun _ => HAPT.out), HBQ⟩
      case rest =>
        obtain ⟨ap, rfl, HAP2, HBC⟩ := hcut
        have HBD := Lib.hid (HWT.out.trans (HBC.out.mono HWT.out.size))
        clear y0 y1 y2 y3 v0 v1 v2 v3
        have y0 : wc.cell? ⟨g2, 0, none⟩ = some (.int .i64 k) := (Go.cell_of_row wc g2 0 _ _ _ (BX2.out _ HBD.out)).trans rfl
        have y1 : wc.cell? ⟨g2, 1, none⟩ = some (.int .i64 a) := (Go.cell_of_row wc g2 1 _ _ _ (BX2.out _ HBD.out)).trans rfl
        have y2 : wc.cell? ⟨g2, 2, none⟩ = some (.int .i64 b) := (Go.cell_of_row wc g2 2 _ _ _ (BX2.out _ HBD.out)).trans rfl
        have y3 : wc.cell? ⟨g2, 3, none⟩ = some (.float .f64 x) := (Go.cell_of_row wc g2 3 _ _ _ (BX2.out _ HBD.out)).trans rfl
        have v0 : wc.cell? ⟨g3, 0, none⟩ = some (.int .i64 k2) := (Go.cell_of_row wc g3 0 _ _ _ (BX3.out _ HBD.out)).trans rfl
        have v1 : wc.cell? ⟨g3, 1, none⟩ = some (.int .i64 a2) := (Go.cell_of_row wc g3 1 _ _ _ (BX3.out _ HBD.out)).trans rfl
        have v2 : wc.cell? ⟨g3, 2, none⟩ = some (.int .i64 b2) := (Go.cell_of_row wc g3 2 _ _ _ (BX3.out _ HBD.out)).trans rfl
        have v3 : wc.cell? ⟨g3, 3, none⟩ = some (.float .f64 x2) := (Go.cell_of_row wc g3 3 _ _ _ (BX3.out _ HBD.out)).trans rfl
        have e0 := (BX1.out _ HBD.out).c0.1
        have e1 := (BX1.out _ HBD.out).c1.1
        have HK33 := Lib.hid (And.intro hk3 hk32)
        clear hk3 hk32
        have hszc : w3.heap.size ≤ wc.heap.size := HBD.out.size
        go_wp2_with (fail)
        refine (HL1.out _ (BXG.out _ HBD.out).1 (BXG.out _ HBD.out).2).mono ?_
        rintro e w6 ⟨U, q, ca, V, s, cb, rfl, p3, p4, hb⟩
        have HB6 := Lib.hid (HBD.out.trans (hb.mono hszc))
        have HM1 := Lib.hid (GN.of_own p3)
        have HM2 := Lib.hid (GL.of_own p4)
        have hsz6 : w3.heap.size ≤ w6.heap.size := HB6.out.size
        have hba := (Below.refl w6.heap.size w6).alloc (Nat.le_refl _) (.cells #[.slice U q ca, .slice V s cb] 25)
        have H10 := Lib.hid (show GB (w6.alloc (.cells #[.slice U q ca, .slice V s cb] 25)) w6.heap.size (.slice U q ca) (.slice V s cb) from Go.heap_alloc_new w6 _)
        have HB7 := Lib.hid (HB6.out.trans (hba.mono hsz6))
        have HM17 := Lib.hid ((HM1.out.below hba).more hba.size)
        have HM27 := Lib.hid ((HM2.out.below hba).more hba.size)
        clear hb p3 p4 hba e0 e1 y0 y1 y2 y3 v0 v1 v2 v3
        go_upto_region 14 with fail
        generalize w6.alloc (.cells #[.slice U q ca, .slice V s cb] 25) = w7 at *
        generalize w6.heap.size = t16 at *
        have hsz7 : w3.heap.size ≤ w7.heap.size := HB7.out.size
        have y0 : w7.cell? ⟨g2, 0, none⟩ = some (.int .i64 k) := (Go.cell_of_row w7 g2 0 _ _ _ (BX2.out _ HB7.out)).trans rfl
        have y1 : w7.cell? ⟨g2, 1, none⟩ = some (.int .i64 a) := (Go.cell_of_row w7 g2 1 _ _ _ (BX2.out _ HB7.out)).trans rfl
        have y2 : w7.cell? ⟨g2, 2, none⟩ = some (.int .i64 b) := (Go.cell_of_row w7 g2 2 _ _ _ (BX2.out _ HB7.out)).trans rfl
        have y3 : w7.cell? ⟨g2, 3, none⟩ = some (.float .f64 x) := (Go.cell_of_row w7 g2 3 _ _ _ (BX2.out _ HB7.out)).trans rfl
        have v0 : w7.cell? ⟨g3, 0, none⟩ = some (.int .i64 k2) := (Go.cell_of_row w7 g3 0 _ _ _ (BX3.out _ HB7.out)).trans rfl
        have v1 : w7.cell? ⟨g3, 1, none⟩ = some (.int .i64 a2) := (Go.cell_of_row w7 g3 1 _ _ _ (BX3.out _ HB7.out)).trans rfl
        have v2 : w7.cell? ⟨g3, 2, none⟩ = some (.int .i64 b2) := (Go.cell_of_row w7 g3 2 _ _ _ (BX3.out _ HB7.out)).trans rfl
        have v3 : w7.cell? ⟨g3, 3, none⟩ = some (.float .f64 x2) := (Go.cell_of_row w7 g3 3 _ _ _ (BX3.out _ HB7.out)).trans rfl
        have e0 := (BX1.out _ HB7.out).c0.1
        have e1 := (BX1.out _ HB7.out).c1.1
        go_wp2_with (fail)
        refine (HL2.out _ (BXG.out _ HB7.out).1 (BXG.out _ HB7.out).2).mono ?_
        rintro e w8 ⟨U2, q2, ca2, V2, s2, cb2, rfl, p5, p6, hb⟩
        have HB8 := Lib.hid (HB7.out.trans (hb.mono hsz7))
        have H108 := Lib.hid (H10.out.below hb H10.out.lt)
        have HM18 := Lib.hid ((HM17.out.below hb).more hb.size)
        have HM28 := Lib.hid ((HM27.out.below hb).more hb.size)
        have HO1 := Lib.hid (GN.of_own p5)
        have HO2 := Lib.hid (GL.of_own p6)
        have hsz8 : w3.heap.size ≤ w8.heap.size := HB8.out.size
        have hba := (Below.refl w8.heap.size w8).alloc (Nat.le_refl _) (.cells #[.slice U2 q2 ca2, .slice V2 s2 cb2] 25)
        have H12 := Lib.hid (show GB (w8.alloc (.cells #[.slice U2 q2 ca2, .slice V2 s2 cb2] 25)) w8.heap.size (.slice U2 q2 ca2) (.slice V2 s2 cb2) from Go.heap_alloc_new w8 _)
        have HB9' := Lib.hid (HB8.out.trans (hba.mono hsz8))
        have H109 := Lib.hid (H108.out.below hba H108.out.lt)
        have HM19 := Lib.hid ((HM18.out.below hba).more hba.size)
        have HM29 := Lib.hid ((HM28.out.below hba).more hba.size)
        have HO19 := Lib.hid ((HO1.out.below hba).more hba.size)
        have HO29 := Lib.hid ((HO2.out.below hba).more hba.size)
        clear hb p5 p6 hba e0 e1 y0 y1 y2 y3 v0 v1 v2 v3
        go_upto_region 15 with fail
        generalize w8.alloc (.cells #[.slice U2 q2 ca2, .slice V2 s2 cb2] 25) = w9 at *
        generalize w8.heap.size = t18 at *
        have hsz9 : w3.heap.size ≤ w9.heap.size := HB9'.out.size
        have HWZ := Lib.hid (BXW.out _ HB9'.out)
        cases ap
        · have hszz : g1 ≤ w9.heap.size := Nat.le_trans hsz3 hsz9
          go_wp2_with (first | (go_at_call 13; refine (awake_any _).mono ?_; rintro e w15 ⟨rfl, hb15⟩))
          go_ret
          exact ⟨rfl, by have e := HGE.out; subst e; exact HWZ.out.trans (hb15.mono HWZ.out.size)⟩
        · obtain ⟨hiff, heq⟩ := HEI.out HK33.out.1 HK33.out.2 (HAP2.out rfl)
          have hszz : g1 ≤ w9.heap.size := Nat.le_trans hsz3 hsz9
          by_cases hf : F1 = 0
          · have hf2 := hiff.1 hf
            obtain ⟨eP, eQ⟩ := heq hf
            clear hiff heq
            have HON := Lib.hid (show GN w9 w9.heap.size U2 q2 P1 by rw [eP]; exact HO19.out)
            have HOL := Lib.hid (show GL w9 w9.heap.size V2 s2 Q1 by rw [eQ]; exact HO29.out)
            clear eP eQ
            have hq : q2 = q := by rw [← HON.out.1, ← HM19.out.1]
            have hs : s2 = s := by rw [← HOL.out.1, ← HM29.out.1]
            have hg1' : (F1 == 0) = true := by rw [beq_iff_eq]; exact hf
            have hg2' : (F2 == 0) = true := by rw [beq_iff_eq]; exact hf2
            have hg3' : (F1 != 0) = false := by rw [hf]; rfl
            subst hq
            subst hs
            clear hf hf2
            have r0 := H109.out.c0.1
            have r1 := H109.out.c1.1
            have u0 := H12.out.c0.1
            have u1 := H12.out.c1.1
            go_wp2_with (first
              | (go_at_call 16; refine (same_eq U V U2 V2 q2 _ s2 _ _ _ P1 Q1 _ HM19.out HM29.out HON.out HOL.out (by rw [← HM19.out.1]; exact Nat.le_trans HPL.out.1 (by decide)) (by rw [← HM29.out.1]; exact Nat.le_trans HPL.out.2 (by decide))).mono ?_; rintro e w10 ⟨rfl, hb⟩; have HBX := Lib.hid (HWZ.out.trans (hb.mono hszz)); clear hb)
              | (go_at_call 13; refine (awake_any _).mono ?_; rintro e w15 ⟨rfl, hb15⟩))
            go_ret
            exact ⟨rfl, by have e := HGE.out; subst e; exact HBX.out.trans (hb15.mono HBX.out.size)⟩
          · have hf2 : ¬ F2 = 0 := fun h => hf (hiff.2 h)
            clear hiff heq
            have hg1' : (F1 == 0) = false := by rw [beq_eq_false_iff_ne]; exact hf
            have hg2' : (F2 == 0) = false := by rw [beq_eq_false_iff_ne]; exact hf2
            have hg3' : (F1 != 0) = true := by simpa using hf
            clear hf hf2
            go_wp2_with (first | (go_at_call 13; refine (awake_any _).mono ?_; rintro e w15 ⟨rfl, hb15⟩))
            go_ret
            exact ⟨rfl, by have e := HGE.out; subst e; exact HWZ.out.trans (hb15.mono HWZ.out.size)⟩

end Go.Proofs.Ytgmljlgoaifneaa
