/- The walk of the law on whose memory is whose. Conditions: the arguments read as a graph and a change. -/
import Derived.Test.YtgmljlgoaifneaaGmu
import Derived.Test.YtgmljlgoaifneaaGrd
import Derived.Test.YtgmljlgoaifneaaGlx
import Derived.Deep.RegionHeld3
import Derived.Deep.Cut
namespace Go.Proofs.Ytgmljlgoaifneaa
open Go.RowKit Flt Go.Mem Go.Lib
set_option linter.unusedVariables false

attribute [local go_sem] run_store_float
set_option maxHeartbeats 6400000
set_option maxRecDepth 100000
section
variable {w : World} {K t n c m c2 : Nat} {A A2 : Option Addr}
/-- a graph in a block of its own, its rows in memory from K on, whatever they hold -/
def OX (w : World) (K t : Nat) (A : Option Addr) (n c : Nat) (A2 : Option Addr) (m c2 : Nat) : Prop :=
  GB w t (.slice A n c) (.slice A2 m c2) ∧ (∃ xs, w.ownsRow K 52 3 (.slice A n c) n xs) ∧ (∃ ys, w.ownsRow K 54 4 (.slice A2 m c2) m ys)
theorem OX.setN {g : Nat} (h : OX w K t (some ⟨g, 0, none⟩) n c A2 m c2) (j : Nat) (u : Value) : OX (w.setCell ⟨g, j, none⟩ u) K t (some ⟨g, 0, none⟩) n c A2 m c2 := by
  obtain ⟨hb, ⟨xs, hn⟩, ys, hl⟩ := h
  have hs := hn.stored j u
  exact ⟨hb.set (fun e => own_neG hn hb (by decide) (by rw [e]; rfl)) j u, ⟨_, hs.1⟩, ys, hl.kept hs.2 (.inr (own_ne2 hl hn (by decide)))⟩
theorem OX.setL {g : Nat} (h : OX w K t A n c (some ⟨g, 0, none⟩) m c2) (j : Nat) (u : Value) : OX (w.setCell ⟨g, j, none⟩ u) K t A n c (some ⟨g, 0, none⟩) m c2 := by
  obtain ⟨hb, ⟨xs, hn⟩, ys, hl⟩ := h
  have hs := hl.stored j u
  exact ⟨hb.set (fun e => own_neG hl hb (by decide) (by rw [e]; rfl)) j u, ⟨xs, hn.kept hs.2 (.inr (own_ne2 hn hl (by decide)))⟩, _, hs.1⟩
theorem OX.below {w' : World} (h : OX w K t A n c A2 m c2) (hb : Below w.heap.size w w') : OX w' K t A n c A2 m c2 := by
  obtain ⟨h1, ⟨xs, h2⟩, ys, h3⟩ := h
  exact ⟨h1.below hb h1.lt, ⟨xs, own_below h2 hb⟩, ys, own_below h3 hb⟩
theorem OX.drew (h : OX w K t A n c A2 m c2) : OX w.drew K t A n c A2 m c2 := h
/-- a row's cell that may be written -/
theorem own_at {base size n : Nat} {e : TypeId} {A : Option Addr} {c : Nat} {xs : List Value} (h : w.ownsRow base e size (.slice A n c) n xs) {i j : Nat} (hi : i < n) (hj : j < size) : ∃ g u, A = some ⟨g, 0, none⟩ ∧ base ≤ g ∧ n ≤ c ∧ w.cell? ⟨g, i * size + j, none⟩ = some u ∧ w.frozen? ⟨g, i * size + j, none⟩ = false := by
  rcases own_cases h with ⟨_, h0, _⟩ | ⟨g, rfl, hnc, _⟩
  · omega
  · have hlt : i * size + j < n * size := by
      have := Nat.mul_le_mul_right size (show i + 1 ≤ n by omega)
      rw [Nat.succ_mul] at this
      omega
    have hx : i * size + j < xs.length := by rw [h.1]; exact hlt
    refine ⟨g, xs[i * size + j], rfl, (h.lt g rfl).1, hnc, ?_, h.frozenAt _⟩
    rw [h.cellAt _ hlt, List.getElem?_eq_getElem hx]
theorem OX.atN (h : OX w K t A n c A2 m c2) {i : Nat} (hi : i < n) : ∃ g u, A = some ⟨g, 0, none⟩ ∧ K ≤ g ∧ n ≤ c ∧ w.cell? ⟨g, i * 3, none⟩ = some u ∧ w.frozen? ⟨g, i * 3, none⟩ = false := by
  obtain ⟨_, ⟨xs, hn⟩, _⟩ := h
  exact own_at hn hi (j := 0) (by decide)
theorem OX.atL (h : OX w K t A n c A2 m c2) {i : Nat} (hi : i < m) : ∃ g u, A2 = some ⟨g, 0, none⟩ ∧ K ≤ g ∧ m ≤ c2 ∧ w.cell? ⟨g, i * 4, none⟩ = some u ∧ w.frozen? ⟨g, i * 4, none⟩ = false := by
  obtain ⟨_, _, ys, hl⟩ := h
  exact own_at hl hi (j := 0) (by decide)
end
theorem A_len2 {ns : List Nd} {ls : List Lk} {k a b : Int} {x : Nat} : (AN ns ls k a b x).length ≤ 256 ∧ (AL ns ls k a b x).length ≤ 4096 := by
  unfold AN AL
  by_cases h0 : AE ns ls k a b x = 0
  · have hc : chkG ns ls = 0 := by
      by_cases hc : chkG ns ls = 0
      · exact hc
      · unfold AE at h0; rw [if_neg hc] at h0; exact absurd h0 hc
    have g := ap_good (k := k) (a := a) (b := b) (x := x) (good_of hc)
    rw [if_pos h0, if_pos h0]
    exact ⟨g.n, g.l⟩
  · rw [if_neg h0, if_neg h0]; exact ⟨by decide, by decide⟩
theorem GraphOwn_walk (A A2 : Option Addr) (n c m c2 : Nat) (ns : List Nd) (ls : List Lk) (cg : Cg) (w : World) (hg : GN w w.heap.size A n ns) (hl : GL w w.heap.size A2 m ls) (hw : ∀ i, i < m → (lkA ls i).w < 18446744073709551616) (hn : n * 16 ≤ 140737488355328) (hm : m * 32 ≤ 140737488355328) (hok : cgOk cg) :
    Calls Try.prog 9 #[.agg #[.slice A n c, .slice A2 m c2], .agg #[.int .i64 cg.k, .int .i64 cg.a, .int .i64 cg.b, .float .f64 cg.w]] w fun e w' => e = .returned (.bool true) ∧ Below w.heap.size w w' := by
  obtain ⟨k, a, b, x⟩ := cg
  have hx64 : x < 18446744073709551616 := hok.1
  dsimp only
  have HN := Lib.hid hg
  have HL := Lib.hid hl
  have HMN := Lib.hid (And.intro hn hm)
  obtain ⟨E, hE⟩ : ∃ E, E = AE ns ls k a b x := ⟨_, rfl⟩
  obtain ⟨NS, hNS⟩ : ∃ E, E = AN ns ls k a b x := ⟨_, rfl⟩
  obtain ⟨LS, hLS⟩ : ∃ E, E = AL ns ls k a b x := ⟨_, rfl⟩
  have HAP := Lib.hid (fun B d B2 d2 w' (h1 : GN w' w'.heap.size B n ns) (h2 : GL w' w'.heap.size B2 m ls) => (by have q := gapply_any B B2 n d m d2 k a b x ns ls w' h1 h2 hw hx64 hn hm; rw [← hE, ← hNS, ← hLS] at q; exact q : Calls Try.prog 17 #[.agg #[.slice B n d, .slice B2 m d2], .agg #[.int .i64 k, .int .i64 a, .int .i64 b, .float .f64 x]] w' (QPost E NS LS w')))
  have HRP := Lib.hid (fun B d B2 d2 w' (h1 : GN w' w'.heap.size B n ns) (h2 : GL w' w'.heap.size B2 m ls) => (by have q := rapply_any B B2 n d m d2 k a b x ns ls w' h1 h2 hw hx64 hn hm; rw [← hE, ← hNS, ← hLS] at q; exact q : Calls Try.prog 18 #[.agg #[.slice B n d, .slice B2 m d2], .agg #[.int .i64 k, .int .i64 a, .int .i64 b, .float .f64 x]] w' (QPost E NS LS w')))
  have HLV := Lib.hid (fun B d B2 d2 w' (h1 : GN w' w'.heap.size B n ns) (h2 : GL w' w'.heap.size B2 m ls) => live_any B B2 n d m d2 ns ls w' h1 h2 hw (by omega) (by omega))
  have HNB := Lib.hid (fun B d B2 d2 w' (h1 : GN w' w'.heap.size B n ns) (h2 : GL w' w'.heap.size B2 m ls) => gnb_any B B2 n d m d2 a ns ls w' h1 h2 hw (by omega) (by omega) (fun g => sortsLk_any g))
  have HLEN := Lib.hid (show NS.length ≤ 1152921504606846976 ∧ LS.length ≤ 1152921504606846976 by
    rw [hNS, hLS]
    exact ⟨Nat.le_trans A_len2.1 (by decide), Nat.le_trans A_len2.2 (by decide)⟩)
  have HLL := Lib.hid (show (liveN ns ls).length ≤ n ∧ (liveK ns ls).length ≤ m by
    refine ⟨?_, ?_⟩
    · rw [← hg.1]; unfold liveN; split
      · exact List.length_filter_le _ _
      · exact Nat.zero_le _
    · rw [← hl.1]; unfold liveK; split
      · exact List.length_filter_le _ _
      · exact Nat.zero_le _)
  have HNL := Lib.hid (show (nbL ns ls a).length ≤ 1152921504606846976 by
    by_cases hc : chkG ns ls = 0
    · exact Nat.le_trans (nb_len ns ls a (good_of hc)) (by decide)
    · unfold nbL nbE
      rw [if_neg hc, if_neg hc]
      exact Nat.zero_le _)
  clear hE hNS hLS hg hl hw hx64 hok hn hm
  generalize liveN ns ls = LN at *
  generalize liveK ns ls = LK at *
  generalize nbL ns ls a = NB at *
  generalize nbE ns ls a = NE at *
  generalize chkG ns ls = CE at *
  have hX1 := Go.heap_alloc_new w (.cells #[.slice A n c, .slice A2 m c2] 25)
  have hX2 := Go.heap_alloc_new (w.alloc (.cells #[.slice A n c, .slice A2 m c2] 25)) (.cells #[.int .i64 k, .int .i64 a, .int .i64 b, .float .f64 x] 38)
  have hB3 := ((Below.refl w.heap.size w).alloc (Nat.le_refl _) (.cells #[.slice A n c, .slice A2 m c2] 25)).alloc (by simp) (.cells #[.int .i64 k, .int .i64 a, .int .i64 b, .float .f64 x] 38)
  have hx1 : ((w.alloc (.cells #[.slice A n c, .slice A2 m c2] 25)).alloc (.cells #[.int .i64 k, .int .i64 a, .int .i64 b, .float .f64 x] 38)).heap[w.heap.size]? = _ := (Go.heap_alloc_old _ _ (by simp)).trans hX1
  have hx2 : ((w.alloc (.cells #[.slice A n c, .slice A2 m c2] 25)).alloc (.cells #[.int .i64 k, .int .i64 a, .int .i64 b, .float .f64 x] 38)).heap[w.heap.size + 1]? = some (.cells #[.int .i64 k, .int .i64 a, .int .i64 b, .float .f64 x] 38 (0, 0)) := by
    rw [show (w.alloc (.cells #[.slice A n c, .slice A2 m c2] 25)).heap.size = w.heap.size + 1 by simp] at hX2; exact hX2
  clear hX1 hX2
  go_enter Try.func9, Try.ntmps9
  go_upto_region 1 with fail
  generalize (w.alloc (.cells #[.slice A n c, .slice A2 m c2] 25)).alloc (.cells #[.int .i64 k, .int .i64 a, .int .i64 b, .float .f64 x] 38) = w1 at *
  generalize hg2 : w.heap.size + 1 = g2 at *
  generalize hg1 : w.heap.size = g1 at *
  have HY1 := Lib.hid (show GB w1 g1 (.slice A n c) (.slice A2 m c2) from hx1)
  have HY2 := Lib.hid hx2
  have HB1 := Lib.hid hB3
  have HGE := Lib.hid hg1
  clear hx1 hx2 hB3 hg2 hg1
  have GAT := Lib.hid (fun w' (h : Below g1 w w') => (by have := HGE.out; subst this; exact ⟨(HN.out.below h).more h.size, (HL.out.below h).more h.size⟩ : GN w' w'.heap.size A n ns ∧ GL w' w'.heap.size A2 m ls))
  have hsz1 : g1 ≤ w1.heap.size := by have := HY1.out.lt; omega
  have e0 := HY1.out.c0.1
  have e1 := HY1.out.c1.1
  go_upto_region 2 with (first | (go_at_call 11; refine (copy_any A A2 n c m c2 ns ls _ (GAT.out _ HB1.out).1 (GAT.out _ HB1.out).2 HMN.out.1 HMN.out.2).mono ?_; rintro e w5 ⟨B, d, B2, d2, rfl, o1, o2, hb5⟩; have HB5 := Lib.hid hb5; have HP15 := Lib.hid o1; have HP25 := Lib.hid o2; clear o1 o2 hb5))
  have HT := Lib.hid (show GB (w5.alloc (.cells #[.slice B n d, .slice B2 m d2] 25)) w5.heap.size (.slice B n d) (.slice B2 m d2) from Go.heap_alloc_new w5 _)
  have HP1 := Lib.hid (World.ownsRow.alloc HP15.out (.cells #[.slice B n d, .slice B2 m d2] 25))
  have HP2 := Lib.hid (World.ownsRow.alloc HP25.out (.cells #[.slice B n d, .slice B2 m d2] 25))
  have HBC := Lib.hid (HB5.out.alloc HB5.out.size (.cells #[.slice B n d, .slice B2 m d2] 25))
  generalize w5.alloc (.cells #[.slice B n d, .slice B2 m d2] 25) = wc at *
  generalize w5.heap.size = t5 at *
  · clear e0 e1 HB5 HP15 HP25
    have HZ1 := Lib.hid (HY1.out.below HBC.out HY1.out.lt)
    have HZ2 := Lib.hid ((HBC.out.block g2 (lt_of_heap HY2.out)).trans HY2.out)
    have HBF := Lib.hid (HB1.out.trans (HBC.out.mono hsz1))
    have hszc : g1 ≤ wc.heap.size := Nat.le_trans hsz1 HBC.out.size
    obtain ⟨K, hK⟩ : ∃ K, K = wc.heap.size := ⟨_, rfl⟩
    rw [← hK] at hszc
    have HK := Lib.hid hK
    have HIN := Lib.hid (fun w' (h : Below K wc w') => (by have e := HK.out; subst e; exact ⟨((GN.of_own HP1.out).below h).more h.size, ((GL.of_own HP2.out).below h).more h.size⟩ : GN w' w'.heap.size B n ns ∧ GL w' w'.heap.size B2 m ls))
    have HGT := Lib.hid (fun w' (h : Below K wc w') => GAT.out w' (HBF.out.trans (h.mono hszc)))
    have HT5 := Lib.hid (fun w' (h : Below K wc w') => (by have e := HK.out; subst e; exact HT.out.below h HT.out.lt : GB w' t5 (.slice B n d) (.slice B2 m d2)))
    have HT1 := Lib.hid (fun w' (h : Below K wc w') => (by have e := HK.out; subst e; exact HZ1.out.below h HZ1.out.lt : GB w' g1 (.slice A n c) (.slice A2 m c2)))
    have HT2 := Lib.hid (fun w' (h : Below K wc w') => (by have e := HK.out; subst e; exact (h.block g2 (lt_of_heap HZ2.out)).trans HZ2.out : w'.heap[g2]? = some (.cells #[.int .i64 k, .int .i64 a, .int .i64 b, .float .f64 x] 38 (0, 0))))
    have HKC := Lib.hid (show Below K wc wc from Below.refl _ _)
    clear hK
    go_wp2_with (fail)
    go_loopw [6] (fun iv wr => ∃ i : Nat, i ≤ 2 ∧ iv = .int .i64 i ∧ Hid (Below K wc wr)) (fun iv _ => 2 - (intOf iv).toNat)
    case atStart => exact ⟨0, by omega, rfl, HKC⟩
    case round =>
      obtain ⟨r, hr, rfl, HR⟩ := hrel
      obtain ⟨wo, rfl⟩ : ∃ wo : World, wo = wr := ⟨_, rfl⟩
      by_cases hr2 : r < 2
      · have hszr : K ≤ wo.heap.size := by have := HR.out.size; have := HK.out; omega
        have e0 := (HT5.out _ HR.out).c0.1
        have e1 := (HT5.out _ HR.out).c1.1
        have y0 : wo.cell? ⟨g2, 0, none⟩ = some (.int .i64 k) := (Go.cell_of_row wo g2 0 _ _ _ (HT2.out _ HR.out)).trans rfl
        have y1 : wo.cell? ⟨g2, 1, none⟩ = some (.int .i64 a) := (Go.cell_of_row wo g2 1 _ _ _ (HT2.out _ HR.out)).trans rfl
        have y2 : wo.cell? ⟨g2, 2, none⟩ = some (.int .i64 b) := (Go.cell_of_row wo g2 2 _ _ _ (HT2.out _ HR.out)).trans rfl
        have y3 : wo.cell? ⟨g2, 3, none⟩ = some (.float .f64 x) := (Go.cell_of_row wo g2 3 _ _ _ (HT2.out _ HR.out)).trans rfl
        go_upto_region 6 with (first | (go_at_call 17; refine (HAP.out B d B2 d2 _ (HIN.out _ HR.out).1 (HIN.out _ HR.out).2).mono ?_; rintro e w6 ⟨X, n', xa, Y, m', ya, rfl, p1, p2, hb6⟩; have HB6 := Lib.hid (HR.out.trans (hb6.mono hszr)); have P1 := Lib.hid (own_mono p1 hszr); have P2 := Lib.hid (own_mono p2 hszr); have Q1 := Lib.hid (GN.of_own p1); have Q2 := Lib.hid (GL.of_own p2); clear p1 p2 hb6))
        clear e0 e1 y0 y1 y2 y3
        have hsz6 : K ≤ w6.heap.size := by have := HB6.out.size; have := HK.out; omega
        have hba := (Below.refl w6.heap.size w6).alloc (Nat.le_refl _) (.cells #[.slice X n' xa, .slice Y m' ya] 25)
        have HB7 := Lib.hid (HB6.out.trans (hba.mono hsz6))
        have HO7 := Lib.hid (show OX (w6.alloc (.cells #[.slice X n' xa, .slice Y m' ya] 25)) K w6.heap.size X n' xa Y m' ya from ⟨Go.heap_alloc_new w6 _, ⟨_, World.ownsRow.alloc P1.out _⟩, _, World.ownsRow.alloc P2.out _⟩)
        have Q17 := Lib.hid ((Q1.out.below hba).more hba.size)
        have Q27 := Lib.hid ((Q2.out.below hba).more hba.size)
        clear hba
        generalize w6.alloc (.cells #[.slice X n' xa, .slice Y m' ya] 25) = w7 at *
        generalize w6.heap.size = t7 at *
        have hsz7 : K ≤ w7.heap.size := by have := HB7.out.size; have := HK.out; omega
        have e0 := (HT1.out _ HB7.out).c0.1
        have e1 := (HT1.out _ HB7.out).c1.1
        have y0 : w7.cell? ⟨g2, 0, none⟩ = some (.int .i64 k) := (Go.cell_of_row w7 g2 0 _ _ _ (HT2.out _ HB7.out)).trans rfl
        have y1 : w7.cell? ⟨g2, 1, none⟩ = some (.int .i64 a) := (Go.cell_of_row w7 g2 1 _ _ _ (HT2.out _ HB7.out)).trans rfl
        have y2 : w7.cell? ⟨g2, 2, none⟩ = some (.int .i64 b) := (Go.cell_of_row w7 g2 2 _ _ _ (HT2.out _ HB7.out)).trans rfl
        have y3 : w7.cell? ⟨g2, 3, none⟩ = some (.float .f64 x) := (Go.cell_of_row w7 g2 3 _ _ _ (HT2.out _ HB7.out)).trans rfl
        go_upto_region 7 with (first | (go_at_call 18; refine (HRP.out A c A2 c2 _ (HGT.out _ HB7.out).1 (HGT.out _ HB7.out).2).mono ?_; rintro e w8 ⟨U, q, ua, V, s, va, rfl, p3, p4, hb8⟩; have HB8 := Lib.hid (HB7.out.trans (hb8.mono hsz7)); have Q3 := Lib.hid (GN.of_own p3); have Q4 := Lib.hid (GL.of_own p4); have HO8 := Lib.hid (OX.below HO7.out hb8); have Q18 := Lib.hid ((Q17.out.below hb8).more hb8.size); have Q28 := Lib.hid ((Q27.out.below hb8).more hb8.size); clear p3 p4 hb8))
        clear e0 e1 y0 y1 y2 y3
        have hsz8 : K ≤ w8.heap.size := by have := HB8.out.size; have := HK.out; omega
        have hba := (Below.refl w8.heap.size w8).alloc (Nat.le_refl _) (.cells #[.slice U q ua, .slice V s va] 25)
        have HU9 := Lib.hid (show GB (w8.alloc (.cells #[.slice U q ua, .slice V s va] 25)) w8.heap.size (.slice U q ua) (.slice V s va) from Go.heap_alloc_new w8 _)
        have HB9 := Lib.hid (HB8.out.trans (hba.mono hsz8))
        have HO9 := Lib.hid (OX.below HO8.out hba)
        have Q19 := Lib.hid ((Q18.out.below hba).more hba.size)
        have Q29 := Lib.hid ((Q28.out.below hba).more hba.size)
        have Q39 := Lib.hid ((Q3.out.below hba).more hba.size)
        have Q49 := Lib.hid ((Q4.out.below hba).more hba.size)
        clear hba
        generalize w8.alloc (.cells #[.slice U q ua, .slice V s va] 25) = w9 at *
        generalize w8.heap.size = t9 at *
        have hsz9 : K ≤ w9.heap.size := by have := HB9.out.size; have := HK.out; omega
        have r0 := HO9.out.1.c0.1
        have r1 := HO9.out.1.c1.1
        have u0 := HU9.out.c0.1
        have u1 := HU9.out.c1.1
        have hq : n' = q := by rw [← Q19.out.1, ← Q39.out.1]
        have hs : m' = s := by rw [← Q29.out.1, ← Q49.out.1]
        subst hq
        subst hs
        have hEE : (E == E) = true := by simp
        have hEN : (E != E) = false := by simp
        go_wp2_with (first | (go_at_call 16; refine (same_eq X Y U V n' xa m' ya _ _ NS LS _ Q19.out Q29.out Q39.out Q49.out (by rw [← Q19.out.1]; exact HLEN.out.1) (by rw [← Q29.out.1]; exact HLEN.out.2)).mono ?_; rintro e w10 ⟨rfl, hb10⟩; have HB10 := Lib.hid (HB9.out.trans (hb10.mono hsz9)); have HO10 := Lib.hid (OX.below HO9.out hb10); clear hb10 r0 r1 u0 u1))
        go_wp2_with (fail)
        have hbdi : n' ≤ 1152921504606846976 := by rw [← Q19.out.1]; exact HLEN.out.1
        go_loopw [11] (fun iv wr => ∃ z : Nat, z ≤ n' ∧ iv = .int .i64 z ∧ Hid (Below K wc wr) ∧ Hid (OX wr K t7 X n' xa Y m' ya)) (fun iv _ => n' - (intOf iv).toNat)
        case atStart => exact ⟨0, Nat.zero_le _, rfl, HB10, HO10⟩
        case round =>
          obtain ⟨i, hi, rfl, HBi, HOi⟩ := hrel
          obtain ⟨wA, rfl⟩ : ∃ wD : World, wD = wr := ⟨_, rfl⟩
          have s0 := HOi.out.1.c0.1
          have s1 := HOi.out.1.c1.1
          by_cases hin : i < n'
          · obtain ⟨g, u, rfl, hkg, hcc, hcl, hfz⟩ := HOi.out.atN hin
            have HST := Lib.hid (HOi.out.setN (i * 3) (.int .i64 (-7)))
            have HBS := Lib.hid (HBi.out.setCell (p := ⟨g, i * 3, none⟩) hkg (.int .i64 (-7)))
            go_wp2_with (fail)
            go_roundw
            case rel => exact ⟨i + 1, by omega, by go_num, HBS, HST⟩
            case measure => simp [intOf]; omega
          · obtain rfl : i = n' := by omega
            go_wp2_with (fail)
            have hbdj : m' ≤ 1152921504606846976 := by rw [← Q29.out.1]; exact HLEN.out.2
            go_loopw [12] (fun iv wr => ∃ z : Nat, z ≤ m' ∧ iv = .int .i64 z ∧ Hid (Below K wc wr) ∧ Hid (OX wr K t7 X i xa Y m' ya)) (fun iv _ => m' - (intOf iv).toNat)
            case atStart => exact ⟨0, Nat.zero_le _, rfl, HBi, HOi⟩
            case round =>
              obtain ⟨j, hj, rfl, HBj, HOj⟩ := hrel
              obtain ⟨wB, rfl⟩ : ∃ wD : World, wD = wr := ⟨_, rfl⟩
              have s0 := HOj.out.1.c0.1
              have s1 := HOj.out.1.c1.1
              by_cases hjn : j < m'
              · obtain ⟨g, u, rfl, hkg, hcc, hcl, hfz⟩ := HOj.out.atL hjn
                have HST := Lib.hid (HOj.out.setL (j * 4) (.int .i64 (-7)))
                have HBS := Lib.hid (HBj.out.setCell (p := ⟨g, j * 4, none⟩) hkg (.int .i64 (-7)))
                go_wp2_with (fail)
                go_roundw
                case rel => exact ⟨j + 1, by omega, by go_num, HBS, HST⟩
                case measure => simp [intOf]; omega
              · obtain rfl : j = m' := by omega
                have hszB : K ≤ wB.heap.size := by have := HBj.out.size; have := HK.out; omega
                have e0 := (HT5.out _ HBj.out).c0.1
                have e1 := (HT5.out _ HBj.out).c1.1
                go_wp2_with (fail)
                refine (HLV.out B d B2 d2 _ (HIN.out _ HBj.out).1 (HIN.out _ HBj.out).2).mono ?_
                rintro e w11 ⟨X2, xk, Y2, yk, rfl, p1, p2, hb6⟩
                have HB6 := Lib.hid (HBj.out.trans (hb6.mono hszB))
                have P1 := Lib.hid (own_mono p1 hszB)
                have P2 := Lib.hid (own_mono p2 hszB)
                clear p1 p2 hb6
                go_upto_region 18 with (fail)
                clear e0 e1
                generalize hLN : LN.length = ln at *
                generalize hLK : LK.length = lk at *
                have hszC : K ≤ w11.heap.size := by have := HB6.out.size; have := HK.out; omega
                have HOC := Lib.hid (show OX (w11.alloc (.cells #[.slice X2 ln xk, .slice Y2 lk yk] 25)) K w11.heap.size X2 ln xk Y2 lk yk from ⟨Go.heap_alloc_new w11 _, ⟨_, World.ownsRow.alloc P1.out _⟩, _, World.ownsRow.alloc P2.out _⟩)
                have HBC2 := Lib.hid (HB6.out.alloc hszC (.cells #[.slice X2 ln xk, .slice Y2 lk yk] 25))
                generalize w11.alloc (.cells #[.slice X2 ln xk, .slice Y2 lk yk] 25) = w12 at *
                generalize w11.heap.size = t13 at *
                go_wp2_with (fail)
                have hbdp : ln ≤ 1152921504606846976 := by have := HLL.out.1; have := HMN.out.1; omega
                go_loopw [15] (fun iv wr => ∃ z : Nat, z ≤ ln ∧ iv = .int .i64 z ∧ Hid (Below K wc wr) ∧ Hid (OX wr K t13 X2 ln xk Y2 lk yk)) (fun iv _ => ln - (intOf iv).toNat)
                case atStart => exact ⟨0, Nat.zero_le _, rfl, HBC2, HOC⟩
                case round =>
                  obtain ⟨p, hp, rfl, HBp, HOp⟩ := hrel
                  obtain ⟨wC, rfl⟩ : ∃ wD : World, wD = wr := ⟨_, rfl⟩
                  have s0 := HOp.out.1.c0.1
                  have s1 := HOp.out.1.c1.1
                  by_cases hpn : p < ln
                  · obtain ⟨g, u, rfl, hkg, hcc, hcl, hfz⟩ := HOp.out.atN hpn
                    have HST := Lib.hid (HOp.out.setN (p * 3) (.int .i64 (-8)))
                    have HBS := Lib.hid (HBp.out.setCell (p := ⟨g, p * 3, none⟩) hkg (.int .i64 (-8)))
                    go_wp2_with (fail)
                    go_roundw
                    case rel => exact ⟨p + 1, by omega, by go_num, HBS, HST⟩
                    case measure => simp [intOf]; omega
                  · obtain rfl : p = ln := by omega
                    have hszD : K ≤ wC.heap.size := by have := HBp.out.size; have := HK.out; omega
                    have e0 := (HT5.out _ HBp.out).c0.1
                    have e1 := (HT5.out _ HBp.out).c1.1
                    have y0 : wC.cell? ⟨g2, 0, none⟩ = some (.int .i64 k) := (Go.cell_of_row wC g2 0 _ _ _ (HT2.out _ HBp.out)).trans rfl
                    have y1 : wC.cell? ⟨g2, 1, none⟩ = some (.int .i64 a) := (Go.cell_of_row wC g2 1 _ _ _ (HT2.out _ HBp.out)).trans rfl
                    have y2 : wC.cell? ⟨g2, 2, none⟩ = some (.int .i64 b) := (Go.cell_of_row wC g2 2 _ _ _ (HT2.out _ HBp.out)).trans rfl
                    have y3 : wC.cell? ⟨g2, 3, none⟩ = some (.float .f64 x) := (Go.cell_of_row wC g2 3 _ _ _ (HT2.out _ HBp.out)).trans rfl
                    go_upto_region 23 with (first | (go_at_call 23; refine (HNB.out B d B2 d2 _ (HIN.out _ HBp.out).1 (HIN.out _ HBp.out).2).mono ?_; rintro e w13 ⟨Z, lz, z1, rfl, p1, hb6⟩; have HB13 := Lib.hid (HBp.out.trans (hb6.mono hszD)); have P3 := Lib.hid (own_mono p1 hszD); have hlz := Lib.hid (show lz ≤ 1152921504606846976 by rw [← (GL.of_own p1).1]; exact HNL.out); clear p1 hb6))
                    clear e0 e1 y0 y1 y2 y3
                    go_wp2_with (fail)
                    go_loopw [18] (fun iv wr => ∃ i : Nat, i ≤ lz ∧ iv = .int .i64 i ∧ Hid (Below K wc wr) ∧ Hid (∃ xs, wr.ownsRow K 54 4 (.slice Z lz z1) lz xs)) (fun iv _ => lz - (intOf iv).toNat)
                    case atStart => exact ⟨0, Nat.zero_le _, rfl, HB13, Lib.hid ⟨_, P3.out⟩⟩
                    case round =>
                      obtain ⟨v, hv, rfl, HBv, HOv⟩ := hrel
                      obtain ⟨wD, rfl⟩ : ∃ wD : World, wD = wr := ⟨_, rfl⟩
                      have hlz2 := hlz.out
                      by_cases hvz : v < lz
                      · obtain ⟨xs, hox⟩ := HOv.out
                        obtain ⟨g, u, rfl, hkg, hcc, hcl, hfz⟩ := own_at hox hvz (j := 1) (by decide)
                        have HST := Lib.hid (hox.stored (v * 4 + 1) (.int .i64 (-9)))
                        have HBS := Lib.hid (HBv.out.setCell (p := ⟨g, v * 4 + 1, none⟩) hkg (.int .i64 (-9)))
                        clear hox
                        go_wp2_with (fail)
                        go_roundw
                        case rel => exact ⟨v + 1, by omega, by go_num, HBS, Lib.hid ⟨_, HST.out.1⟩⟩
                        case measure => simp [intOf]; omega
                      · obtain rfl : v = lz := by omega
                        go_wp2_with (fail)
                        go_roundw
                        case rel => exact ⟨r + 1, by omega, by go_num, HBv⟩
                        case measure => simp [intOf]; omega
      · obtain rfl : r = 2 := by omega
        have e0 := (HT5.out _ HR.out).c0.1
        have e1 := (HT5.out _ HR.out).c1.1
        have f0 := (HT1.out _ HR.out).c0.1
        have f1 := (HT1.out _ HR.out).c1.1
        have hszr : K ≤ wo.heap.size := by have := HR.out.size; have := HK.out; omega
        have HBW := Lib.hid (HBF.out.trans (HR.out.mono hszc))
        have hszw : g1 ≤ wo.heap.size := Nat.le_trans hszc hszr
        go_wp2_with (first | (go_at_call 16; refine (same_eq B B2 A A2 n d m d2 c c2 ns ls _ (HIN.out _ HR.out).1 (HIN.out _ HR.out).2 (HGT.out _ HR.out).1 (HGT.out _ HR.out).2 (by have := HMN.out.1; omega) (by have := HMN.out.2; omega)).mono ?_; rintro e w14 ⟨rfl, hb14⟩; have HB14 := Lib.hid (HBW.out.trans (hb14.mono hszw)); clear hb14) | (go_at_call 13; refine (awake_any _).mono ?_; rintro e w15 ⟨rfl, hb15⟩))
        go_ret
        exact ⟨rfl, by have e := HGE.out; subst e; exact HB14.out.trans (hb15.mono HB14.out.size)⟩

end Go.Proofs.Ytgmljlgoaifneaa
