/- Two changes, one behind the other: the walk of the law's own apply; of what tells a link's change. Conditions: as each theorem's hypotheses say. -/
import Derived.Test.YtgmljlgoaifneaaGun
namespace Go.Proofs.Ytgmljlgoaifneaa
open Go.RowKit Flt Go.Mem Go.Lib
set_option linter.unusedVariables false

attribute [local go_sem] run_store_float
set_option maxHeartbeats 6400000
set_option maxRecDepth 100000
theorem apL_wt {ns : List Nd} {ls : List Lk} {k a b : Int} {x : Nat} (hx : x < 18446744073709551616) (h : ∀ y ∈ ls, y.w < 18446744073709551616) : ∀ y ∈ apL ns ls k a b x, y.w < 18446744073709551616 := by
  intro y hy
  unfold apL at hy
  split at hy
  · split at hy
    · rcases mem_addL.1 hy with rfl | hy
      · exact hx
      · exact h y hy
    · split at hy
      · unfold modL at hy
        rcases mem_set' hy with rfl | hy
        · by_cases hi : cntL ls (lkT a b) < ls.length
          · have hm : (lkA ls (cntL ls (lkT a b))).w < 18446744073709551616 := by rw [lkA_get hi]; exact h _ (List.getElem_mem _)
            unfold turnL
            split
            · exact hx
            · split <;> exact hm
          · rw [List.set_eq_of_length_le (by omega)] at hy
            exact h _ hy
        · exact h y hy
      · exact h y hy
  · exact h y hy
theorem lk_allW {ls : List Lk} {m : Nat} (hl : ls.length = m) : (∀ i, i < m → (lkA ls i).w < 18446744073709551616) ↔ ∀ x ∈ ls, x.w < 18446744073709551616 := by
  constructor
  · intro h x hx
    obtain ⟨i, hi, rfl⟩ := List.getElem_of_mem hx
    have := h i (by omega)
    rwa [lkA_get hi] at this
  · intro h i hi
    rw [lkA_get (by omega)]; exact h _ (List.getElem_mem _)
section
variable (w : World) (o1 o2 o3 o4 : Obj)
theorem four_1 : ((((w.alloc o1).alloc o2).alloc o3).alloc o4).heap[w.heap.size]? = some o1 := (Go.heap_alloc_old _ _ (by first | (simp; done) | (simp; omega))).trans ((Go.heap_alloc_old _ _ (by first | (simp; done) | (simp; omega))).trans ((Go.heap_alloc_old _ _ (by simp)).trans (Go.heap_alloc_new w o1)))
theorem four_2 : ((((w.alloc o1).alloc o2).alloc o3).alloc o4).heap[w.heap.size + 1]? = some o2 := by
  have h := Go.heap_alloc_new (w.alloc o1) o2
  rw [show (w.alloc o1).heap.size = w.heap.size + 1 by simp] at h
  exact (Go.heap_alloc_old _ _ (by first | (simp; done) | (simp; omega))).trans ((Go.heap_alloc_old _ _ (by simp)).trans h)
theorem four_3 : ((((w.alloc o1).alloc o2).alloc o3).alloc o4).heap[w.heap.size + 1 + 1]? = some o3 := by
  have h := Go.heap_alloc_new ((w.alloc o1).alloc o2) o3
  rw [show ((w.alloc o1).alloc o2).heap.size = w.heap.size + 1 + 1 by simp] at h
  exact (Go.heap_alloc_old _ _ (by simp)).trans h
theorem four_4 : ((((w.alloc o1).alloc o2).alloc o3).alloc o4).heap[w.heap.size + 1 + 1 + 1]? = some o4 := by
  have h := Go.heap_alloc_new (((w.alloc o1).alloc o2).alloc o3) o4
  rwa [show (((w.alloc o1).alloc o2).alloc o3).heap.size = w.heap.size + 1 + 1 + 1 by simp] at h
theorem four_B : Below w.heap.size w ((((w.alloc o1).alloc o2).alloc o3).alloc o4) := ((((Below.refl w.heap.size w).alloc (Nat.le_refl _) o1).alloc (by simp) o2).alloc (by simp; omega) o3).alloc (by simp; omega) o4
end
/-- what is left of a graph that may be -/
theorem AE_zero {ns : List Nd} {ls : List Lk} {k a b : Int} {x : Nat} (h : AE ns ls k a b x = 0) : Good ns ls ∧ apE ns ls k a b x = 0 ∧ AN ns ls k a b x = apN ns ls k a b x ∧ AL ns ls k a b x = apL ns ls k a b x := by
  have hc : chkG ns ls = 0 := by
    by_cases hc : chkG ns ls = 0
    · exact hc
    · unfold AE at h; rw [if_neg hc] at h; exact absurd h hc
  refine ⟨good_of hc, ?_, if_pos h, if_pos h⟩
  unfold AE at h; rwa [if_pos hc] at h
theorem A_len {ns : List Nd} {ls : List Lk} {k a b : Int} {x : Nat} : (AN ns ls k a b x).length ≤ 256 ∧ (AL ns ls k a b x).length ≤ 4096 := by
  by_cases h : AE ns ls k a b x = 0
  · obtain ⟨g, _, e1, e2⟩ := AE_zero h
    rw [e1, e2]
    exact ⟨(ap_good g).n, (ap_good g).l⟩
  · unfold AN AL
    rw [if_neg h, if_neg h]
    exact ⟨by decide, by decide⟩
theorem A_w {ns : List Nd} {ls : List Lk} {k a b : Int} {x : Nat} (hx : x < 18446744073709551616) (hw : ∀ y ∈ ls, y.w < 18446744073709551616) : ∀ y ∈ AL ns ls k a b x, y.w < 18446744073709551616 := by
  unfold AL
  split
  · exact apL_wt hx hw
  · simp
/-- two changes -/
def BE (ns : List Nd) (ls : List Lk) (k a b : Int) (x : Nat) (k2 a2 b2 : Int) (x2 : Nat) : Int := if AE ns ls k a b x = 0 then AE (AN ns ls k a b x) (AL ns ls k a b x) k2 a2 b2 x2 else AE ns ls k a b x
def BN (ns : List Nd) (ls : List Lk) (k a b : Int) (x : Nat) (k2 a2 b2 : Int) (x2 : Nat) : List Nd := if AE ns ls k a b x = 0 then AN (AN ns ls k a b x) (AL ns ls k a b x) k2 a2 b2 x2 else []
def BL (ns : List Nd) (ls : List Lk) (k a b : Int) (x : Nat) (k2 a2 b2 : Int) (x2 : Nat) : List Lk := if AE ns ls k a b x = 0 then AL (AN ns ls k a b x) (AL ns ls k a b x) k2 a2 b2 x2 else []
theorem B_len {ns : List Nd} {ls : List Lk} {k a b k2 a2 b2 : Int} {x x2 : Nat} : (BN ns ls k a b x k2 a2 b2 x2).length ≤ 256 ∧ (BL ns ls k a b x k2 a2 b2 x2).length ≤ 4096 := by
  unfold BN BL
  split
  · exact A_len
  · exact ⟨by decide, by decide⟩
/-- either order: both may be done or neither; if both, the same is left -/
theorem B_either {ns : List Nd} {ls : List Lk} {k a b k2 a2 b2 : Int} {x x2 : Nat} (hk : 3 ≤ k) (hk2 : 3 ≤ k2) (hp : apart k a b k2 a2 b2) :
    (BE ns ls k a b x k2 a2 b2 x2 = 0 ↔ BE ns ls k2 a2 b2 x2 k a b x = 0) ∧ (BE ns ls k a b x k2 a2 b2 x2 = 0 → BN ns ls k a b x k2 a2 b2 x2 = BN ns ls k2 a2 b2 x2 k a b x ∧ BL ns ls k a b x k2 a2 b2 x2 = BL ns ls k2 a2 b2 x2 k a b x) := by
  have key : ∀ {k a b k2 a2 b2 : Int} {x x2 : Nat}, 3 ≤ k → 3 ≤ k2 → (BE ns ls k a b x k2 a2 b2 x2 = 0 ↔ AE ns ls k a b x = 0 ∧ AE ns ls k2 a2 b2 x2 = 0) := fun {k a b k2 a2 b2 x x2} hk hk2 => by
    unfold BE
    by_cases h : AE ns ls k a b x = 0
    · obtain ⟨g, _, e1, e2⟩ := AE_zero h
      rw [if_pos h, e1, e2, AE_after g hk hk2]
      exact ⟨fun q => ⟨h, q⟩, fun q => q.2⟩
    · rw [if_neg h]
      exact ⟨fun q => absurd q h, fun q => absurd q.1 h⟩
  refine ⟨by rw [key hk hk2, key hk2 hk]; exact and_comm, fun h => ?_⟩
  obtain ⟨h1, h2⟩ := (key hk hk2).1 h
  obtain ⟨g, f1, e1, e2⟩ := AE_zero h1
  obtain ⟨_, f2, e3, e4⟩ := AE_zero h2
  have e := either (x := x) (x2 := x2) g hk hk2 hp f1 f2
  have q1 : AE (apN ns ls k a b x) (apL ns ls k a b x) k2 a2 b2 x2 = 0 := (AE_after g hk hk2).trans h2
  have q2 : AE (apN ns ls k2 a2 b2 x2) (apL ns ls k2 a2 b2 x2) k a b x = 0 := (AE_after g hk2 hk).trans h1
  unfold BN BL
  rw [if_pos h1, if_pos h2, if_pos h1, if_pos h2, e1, e2, e3, e4, (AE_zero q1).2.2.1, (AE_zero q1).2.2.2, (AE_zero q2).2.2.1, (AE_zero q2).2.2.2]
  exact e
theorem linkd_any (k a b : Int) (x : Nat) (w : World) : Calls Try.prog 21 #[.agg #[.int .i64 k, .int .i64 a, .int .i64 b, .float .f64 x]] w fun e w' => e = .returned (.bool (decide (k ≤ 5))) ∧ Below w.heap.size w w' := by
  go_enter Try.func21, Try.ntmps21
  go_wp2_with (fail)
  go_ret
  exact ⟨rfl, (Below.refl _ _).alloc (Nat.le_refl _) _⟩
theorem ret_graph6 {fn : Func} {u v : Value} {k : Int} (h : fn.results = #[.cell 6 25, .tmp 7]) (tmps : Array Value) (w : World) (g : Nat) (hp : tmps.getD 6 undef = .pointer (some ⟨g, 0, none⟩)) (hk : tmps.getD 7 undef = .int .i64 k) (hg : GB w g u v) :
    (results fn tmps).run Try.prog w = .ok (.tuple #[.agg #[u, v], .int .i64 k]) w := by
  rw [results_cell_tmp h, hp, hk]
  simp [asAddr, Go.run_loadVar_row (P := Try.prog) w g 25 25 _ (0, 0) _ hg Try.underlying25 rfl (by kernel_rfl), Result.andThen]
theorem lapply_any (A A2 : Option Addr) (n c m c2 : Nat) (k a b : Int) (x : Nat) (k2 a2 b2 : Int) (x2 : Nat) (ns : List Nd) (ls : List Lk) (w : World) (hg : GN w w.heap.size A n ns) (hl : GL w w.heap.size A2 m ls) (hw : ∀ y ∈ ls, y.w < 18446744073709551616) (hx64 : x < 18446744073709551616) (hx64' : x2 < 18446744073709551616) (hn : n * 16 ≤ 140737488355328) (hm : m * 32 ≤ 140737488355328) :
    Calls Try.prog 22 #[.agg #[.slice A n c, .slice A2 m c2], .agg #[.int .i64 k, .int .i64 a, .int .i64 b, .float .f64 x], .agg #[.int .i64 k2, .int .i64 a2, .int .i64 b2, .float .f64 x2]] w (QPost (BE ns ls k a b x k2 a2 b2 x2) (BN ns ls k a b x k2 a2 b2 x2) (BL ns ls k a b x k2 a2 b2 x2) w) := by
  obtain ⟨E, hE⟩ : ∃ E, E = BE ns ls k a b x k2 a2 b2 x2 := ⟨_, rfl⟩
  obtain ⟨NS, hNS⟩ : ∃ E, E = BN ns ls k a b x k2 a2 b2 x2 := ⟨_, rfl⟩
  obtain ⟨LS, hLS⟩ : ∃ E, E = BL ns ls k a b x k2 a2 b2 x2 := ⟨_, rfl⟩
  rw [← hE, ← hNS, ← hLS]
  obtain ⟨E1, hE1⟩ : ∃ E, E = AE ns ls k a b x := ⟨_, rfl⟩
  obtain ⟨N1, hN1⟩ : ∃ E, E = AN ns ls k a b x := ⟨_, rfl⟩
  obtain ⟨L1, hL1⟩ : ∃ E, E = AL ns ls k a b x := ⟨_, rfl⟩
  have HE := Lib.hid (show E = if E1 = 0 then AE N1 L1 k2 a2 b2 x2 else E1 by rw [hE, hE1, hN1, hL1]; rfl)
  have HNS := Lib.hid (show NS = if E1 = 0 then AN N1 L1 k2 a2 b2 x2 else [] by rw [hNS, hE1, hN1, hL1]; rfl)
  have HLS := Lib.hid (show LS = if E1 = 0 then AL N1 L1 k2 a2 b2 x2 else [] by rw [hLS, hE1, hN1, hL1]; rfl)
  have HLEN := Lib.hid (show N1.length ≤ 256 ∧ L1.length ≤ 4096 by rw [hN1, hL1]; exact A_len)
  have HW1 := Lib.hid (show ∀ y ∈ L1, y.w < 18446744073709551616 by rw [hL1]; exact A_w hx64 hw)
  have HEZ := Lib.hid (show ¬ E1 = 0 → N1 = [] ∧ L1 = [] by intro h; rw [hN1, hL1]; unfold AN AL; rw [← hE1, if_neg h, if_neg h]; exact ⟨rfl, rfl⟩)
  have HAP := Lib.hid (fun w' (h1 : GN w' w'.heap.size A n ns) (h2 : GL w' w'.heap.size A2 m ls) => (by have q := gapply_any A A2 n c m c2 k a b x ns ls w' h1 h2 ((lk_allW h2.1).2 hw) hx64 hn hm; rw [← hE1, ← hN1, ← hL1] at q; exact q : Calls Try.prog 17 #[.agg #[.slice A n c, .slice A2 m c2], .agg #[.int .i64 k, .int .i64 a, .int .i64 b, .float .f64 x]] w' (QPost E1 N1 L1 w')))
  have HN := Lib.hid hg
  have HL := Lib.hid hl
  have HX2 := Lib.hid hx64'
  clear hE hNS hLS hE1 hN1 hL1 hg hl hw hx64 hx64'
  generalize ho1 : Obj.cells #[.slice A n c, .slice A2 m c2] 25 = o1
  generalize ho2 : Obj.cells #[.int .i64 k, .int .i64 a, .int .i64 b, .float .f64 x] 38 = o2
  generalize ho3 : Obj.cells #[.int .i64 k2, .int .i64 a2, .int .i64 b2, .float .f64 x2] 38 = o3
  generalize ho4 : Obj.cells #[.slice none 0 0, .slice none 0 0] 25 = o4
  have f1 := four_1 w o1 o2 o3 o4
  have f2 := four_2 w o1 o2 o3 o4
  have f3 := four_3 w o1 o2 o3 o4
  have f4 := four_4 w o1 o2 o3 o4
  have fB := four_B w o1 o2 o3 o4
  subst ho1 ho2 ho3 ho4
  go_enter Try.func22, Try.ntmps22
  go_upto_region 1 with fail
  generalize (((w.alloc (.cells #[.slice A n c, .slice A2 m c2] 25)).alloc (.cells #[.int .i64 k, .int .i64 a, .int .i64 b, .float .f64 x] 38)).alloc (.cells #[.int .i64 k2, .int .i64 a2, .int .i64 b2, .float .f64 x2] 38)).alloc (.cells #[.slice none 0 0, .slice none 0 0] 25) = w1 at *
  generalize hg4 : w.heap.size + 1 + 1 + 1 = g4 at *
  generalize hg3 : w.heap.size + 1 + 1 = g3 at *
  generalize hg2 : w.heap.size + 1 = g2 at *
  generalize hg1 : w.heap.size = g1 at *
  have HY1 := Lib.hid (show GB w1 g1 (.slice A n c) (.slice A2 m c2) from f1)
  have HY2 := Lib.hid f2
  have HY3 := Lib.hid f3
  have HY4 := Lib.hid (show GB w1 g4 (.slice none 0 0) (.slice none 0 0) from f4)
  have HB1 := Lib.hid fB
  have HGE := Lib.hid hg1
  have HGG := Lib.hid (show g4 = g1 + 3 by omega)
  clear f1 f2 f3 f4 fB hg1 hg2 hg3 hg4
  have GAT := Lib.hid (fun w' (h : Below g1 w w') => (by have := HGE.out; subst this; exact ⟨(HN.out.below h).more h.size, (HL.out.below h).more h.size⟩ : GN w' w'.heap.size A n ns ∧ GL w' w'.heap.size A2 m ls))
  have hsz1 : g1 ≤ w1.heap.size := by have := HY1.out.lt; omega
  have e0 := HY1.out.c0.1
  have e1 := HY1.out.c1.1
  have y0 : w1.cell? ⟨g2, 0, none⟩ = some (.int .i64 k) := (Go.cell_of_row w1 g2 0 _ _ _ HY2.out).trans rfl
  have y1 : w1.cell? ⟨g2, 1, none⟩ = some (.int .i64 a) := (Go.cell_of_row w1 g2 1 _ _ _ HY2.out).trans rfl
  have y2 : w1.cell? ⟨g2, 2, none⟩ = some (.int .i64 b) := (Go.cell_of_row w1 g2 2 _ _ _ HY2.out).trans rfl
  have y3 : w1.cell? ⟨g2, 3, none⟩ = some (.float .f64 x) := (Go.cell_of_row w1 g2 3 _ _ _ HY2.out).trans rfl
  go_wp2_with (fail)
  refine (HAP.out _ (GAT.out _ HB1.out).1 (GAT.out _ HB1.out).2).mono ?_
  rintro e w2 ⟨B, p, d, B2, r, d2, rfl, p1, p2, hb⟩
  have HB2 := Lib.hid (HB1.out.trans (hb.mono hsz1))
  have HZ3 := Lib.hid ((hb.block g3 (lt_of_heap HY3.out)).trans HY3.out)
  have HZ4 := Lib.hid (HY4.out.below hb HY4.out.lt)
  have hsz2 : g1 ≤ w2.heap.size := Nat.le_trans hsz1 hb.size
  have HP1 := Lib.hid (own_mono p1 hsz1)
  have HP2 := Lib.hid (own_mono p2 hsz1)
  clear hb p1 p2 e0 e1 y0 y1 y2 y3
  have HT := Lib.hid (show GB (w2.alloc (.cells #[.slice B p d, .slice B2 r d2] 25)) w2.heap.size (.slice B p d) (.slice B2 r d2) from Go.heap_alloc_new w2 _)
  have HA3 := Lib.hid ((Go.heap_alloc_old w2 (.cells #[.slice B p d, .slice B2 r d2] 25) (lt_of_heap HZ3.out)).trans HZ3.out)
  have HA4 := Lib.hid (HZ4.out.alloc (.cells #[.slice B p d, .slice B2 r d2] 25))
  have HQ1 := Lib.hid (World.ownsRow.alloc HP1.out (.cells #[.slice B p d, .slice B2 r d2] 25))
  have HQ2 := Lib.hid (World.ownsRow.alloc HP2.out (.cells #[.slice B p d, .slice B2 r d2] 25))
  have HAB := Lib.hid (HB2.out.alloc hsz2 (.cells #[.slice B p d, .slice B2 r d2] 25))
  go_upto_region 2 with fail
  generalize w2.alloc (.cells #[.slice B p d, .slice B2 r d2] 25) = w3 at *
  generalize w2.heap.size = t8 at *
  have hsz3 : g1 ≤ w3.heap.size := by have := HA4.out.lt; have := HGG.out; omega
  have r0 := HT.out.c0.1
  have r1 := HT.out.c1.1
  by_cases h1 : E1 = 0
  · have eqv : 0 = E1 := h1.symm
    subst eqv
    have HE2 := Lib.hid (show E = AE N1 L1 k2 a2 b2 x2 from HE.out.trans (if_pos rfl))
    have HN2 := Lib.hid (show NS = AN N1 L1 k2 a2 b2 x2 from HNS.out.trans (if_pos rfl))
    have HL2 := Lib.hid (show LS = AL N1 L1 k2 a2 b2 x2 from HLS.out.trans (if_pos rfl))
    have y0 : w3.cell? ⟨g3, 0, none⟩ = some (.int .i64 k2) := (Go.cell_of_row w3 g3 0 _ _ _ HA3.out).trans rfl
    have y1 : w3.cell? ⟨g3, 1, none⟩ = some (.int .i64 a2) := (Go.cell_of_row w3 g3 1 _ _ _ HA3.out).trans rfl
    have y2 : w3.cell? ⟨g3, 2, none⟩ = some (.int .i64 b2) := (Go.cell_of_row w3 g3 2 _ _ _ HA3.out).trans rfl
    have y3 : w3.cell? ⟨g3, 3, none⟩ = some (.float .f64 x2) := (Go.cell_of_row w3 g3 3 _ _ _ HA3.out).trans rfl
    have HM := Lib.hid (GN.of_own HQ1.out)
    have HK := Lib.hid (GL.of_own HQ2.out)
    have hp : p ≤ 256 := by have := HM.out.1; have := HLEN.out.1; omega
    have hr : r ≤ 4096 := by have := HK.out.1; have := HLEN.out.2; omega
    go_wp2_with (fail)
    refine (gapply_any B B2 p d r d2 k2 a2 b2 x2 N1 L1 _ HM.out HK.out ((lk_allW HK.out.1).2 HW1.out) HX2.out (by omega) (by omega)).mono ?_
    rw [← HE2.out, ← HN2.out, ← HL2.out]
    rintro e w4 ⟨C, q, f, C2, s, f2, rfl, p1, p2, hb⟩
    have HB4 := Lib.hid (HAB.out.trans (hb.mono hsz3))
    have HZ := Lib.hid (HA4.out.below hb HA4.out.lt)
    have HR1 := Lib.hid (own_mono p1 hsz3)
    have HR2 := Lib.hid (own_mono p2 hsz3)
    clear hb p1 p2 r0 r1 y0 y1 y2 y3
    obtain ⟨z0, k0⟩ := HZ.out.c0
    obtain ⟨z1, k1⟩ := HZ.out.c1
    go_wp2_with (fail)
    refine bodyPost_ret (ret_graph6 rfl _ _ _ rfl rfl ((HZ.out.s0 (.slice C q f)).s1 (.slice C2 s f2))) rfl ?_
    have hge2 := HGE.out
    have hgg := HGG.out
    subst hge2
    exact ⟨C, q, f, C2, s, f2, rfl, own_set2 (own_set2 HR1.out (own_neG HR1.out HZ.out (by decide))) (own_neG HR1.out HZ.out (by decide)), own_set2 (own_set2 HR2.out (own_neG HR2.out HZ.out (by decide))) (own_neG HR2.out HZ.out (by decide)), (HB4.out.setCell (p := ⟨g4, 0, none⟩) (by show _ ≤ g4; omega) _).setCell (p := ⟨g4, 1, none⟩) (by show _ ≤ g4; omega) _⟩
  · have eqv : E1 = E := Eq.symm (HE.out.trans (if_neg h1))
    have hEZ := HEZ.out h1
    have eqn : NS = N1 := (HNS.out.trans (if_neg h1)).trans hEZ.1.symm
    have eql : LS = L1 := (HLS.out.trans (if_neg h1)).trans hEZ.2.symm
    subst eqv eqn eql
    clear hEZ
    obtain ⟨z0, k0⟩ := HA4.out.c0
    obtain ⟨z1, k1⟩ := HA4.out.c1
    go_wp2_with (fail)
    refine bodyPost_ret (ret_graph6 rfl _ _ _ rfl rfl ((HA4.out.s0 (.slice B p d)).s1 (.slice B2 r d2))) rfl ?_
    have hge2 := HGE.out
    have hgg := HGG.out
    subst hge2
    exact ⟨B, p, d, B2, r, d2, rfl, own_set2 (own_set2 HQ1.out (own_neG HQ1.out HA4.out (by decide))) (own_neG HQ1.out HA4.out (by decide)), own_set2 (own_set2 HQ2.out (own_neG HQ2.out HA4.out (by decide))) (own_neG HQ2.out HA4.out (by decide)), (HAB.out.setCell (p := ⟨g4, 0, none⟩) (by show _ ≤ g4; omega) _).setCell (p := ⟨g4, 1, none⟩) (by show _ ≤ g4; omega) _⟩

end Go.Proofs.Ytgmljlgoaifneaa
