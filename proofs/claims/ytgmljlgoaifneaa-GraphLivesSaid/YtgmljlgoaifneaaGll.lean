/- The walk of the law on what is up of graphs. Conditions: the argument reads as a graph. -/
import Derived.Test.YtgmljlgoaifneaaGsm
import Derived.Test.YtgmljlgoaifneaaGpf
import Derived.Test.YtgmljlgoaifneaaGop
namespace Go.Proofs.Ytgmljlgoaifneaa
open Go.RowKit Flt Go.Mem Go.Lib
set_option linter.unusedVariables false

attribute [local go_sem] run_store_float
set_option maxHeartbeats 6400000
set_option maxRecDepth 100000
theorem lk_all {ls : List Lk} {m : Nat} (hl : ls.length = m) : (∀ i, i < m → (lkA ls i).w < 18446744073709551616) ↔ ∀ x ∈ ls, x.w < 18446744073709551616 := by
  constructor
  · intro h x hx
    obtain ⟨i, hi, rfl⟩ := List.getElem_of_mem hx
    have := h i (by omega)
    rwa [lkA_get hi] at this
  · intro h i hi
    rw [lkA_get (by omega)]; exact h _ (List.getElem_mem _)
theorem liveK_w {ns : List Nd} {ls : List Lk} (h : ∀ x ∈ ls, x.w < 18446744073709551616) : ∀ i, i < (liveK ns ls).length → (lkA (liveK ns ls) i).w < 18446744073709551616 := (lk_all rfl).2 fun x hx => by
  unfold liveK at hx
  split at hx
  · exact h x (List.mem_filter.1 hx).1
  · cases hx
theorem liveN_len {ns : List Nd} {ls : List Lk} : (liveN ns ls).length ≤ ns.length := by
  unfold liveN; split
  · exact List.length_filter_le _ _
  · simp
theorem liveK_len {ns : List Nd} {ls : List Lk} : (liveK ns ls).length ≤ ls.length := by
  unfold liveK; split
  · exact List.length_filter_le _ _
  · simp
theorem GraphLives_walk (A A2 : Option Addr) (n c m c2 : Nat) (ns : List Nd) (ls : List Lk) (w : World) (hg : GN w w.heap.size A n ns) (hl : GL w w.heap.size A2 m ls) (hw : ∀ i, i < m → (lkA ls i).w < 18446744073709551616) (hn : n * 16 ≤ 140737488355328) (hm : m * 32 ≤ 140737488355328) :
    Calls Try.prog 6 #[.agg #[.slice A n c, .slice A2 m c2]] w fun e w' => e = .returned (.bool true) ∧ Below w.heap.size w w' := by
  have HG := Lib.hid hg
  have HL := Lib.hid hl
  have HW := Lib.hid ((lk_all hl.1).1 hw)
  have hw' := hw
  have HWI := Lib.hid hw'
  have hLN := @liveN_len ns ls
  have hLK := @liveK_len ns ls
  have hlg := hg.1
  have hll := hl.1
  clear hw hw' hg hl
  have HB1 := Lib.hid ((Below.refl w.heap.size w).alloc (Nat.le_refl _) (.cells #[.slice A n c, .slice A2 m c2] 25))
  have HX1 := Lib.hid (show GB (w.alloc (.cells #[.slice A n c, .slice A2 m c2] 25)) w.heap.size (.slice A n c) (.slice A2 m c2) from Go.heap_alloc_new w _)
  go_enter Try.func6, Try.ntmps6
  go_wp2_with (fail)
  generalize w.alloc (.cells #[.slice A n c, .slice A2 m c2] 25) = w1 at *
  generalize hg0 : w.heap.size = g0 at *
  have HGE := Lib.hid hg0
  clear hg0
  have GAT := Lib.hid (fun w' (h : Below g0 w w') => (by have := HGE.out; subst this; exact ⟨(HG.out.below h).more h.size, (HL.out.below h).more h.size⟩ : GN w' w'.heap.size A n ns ∧ GL w' w'.heap.size A2 m ls))
  refine (copy_any A A2 n c m c2 ns ls _ (GAT.out _ HB1.out).1 (GAT.out _ HB1.out).2 hn hm).mono ?_
  rintro e w2 ⟨C, d, C2, d2, rfl, o1, o2, hb⟩
  have hlt1 := HX1.out.lt
  have HX2 := Lib.hid (HX1.out.below hb hlt1)
  have HB2 := Lib.hid (HB1.out.trans (hb.mono (by omega)))
  have HO1 := Lib.hid (GN.of_own o1)
  have HO2 := Lib.hid (GL.of_own o2)
  have hlt2 := HX2.out.lt
  clear hb o1 o2
  go_wp2_with (fail)
  refine (live_any C C2 n d m d2 ns ls _ HO1.out HO2.out HWI.out (by omega) (by omega)).mono ?_
  rintro e w3 ⟨X, x1, X2, x2, rfl, o1, o2, hb⟩
  have HX3 := Lib.hid (HX2.out.below hb hlt2)
  have HB3 := Lib.hid (HB2.out.trans (hb.mono (by omega)))
  have HN3 := Lib.hid (GN.of_own o1)
  have HL3 := Lib.hid (GL.of_own o2)
  have hlt3 := HX3.out.lt
  clear hb o1 o2
  have hXA := Go.heap_alloc_new w3 (.cells #[.slice X (liveN ns ls).length x1, .slice X2 (liveK ns ls).length x2] 25)
  have hba := (Below.refl w3.heap.size w3).alloc (Nat.le_refl _) (.cells #[.slice X (liveN ns ls).length x1, .slice X2 (liveK ns ls).length x2] 25)
  obtain ⟨e0, _⟩ := HX3.out.c0
  obtain ⟨e1, _⟩ := HX3.out.c1
  have e0a := alloc_keep e0 (.cells #[.slice X (liveN ns ls).length x1, .slice X2 (liveK ns ls).length x2] 25)
  have e1a := alloc_keep e1 (.cells #[.slice X (liveN ns ls).length x1, .slice X2 (liveK ns ls).length x2] 25)
  go_wp2_with (fail)
  generalize w3.alloc (.cells #[.slice X (liveN ns ls).length x1, .slice X2 (liveK ns ls).length x2] 25) = w4 at *
  have HT4 := Lib.hid (show GB w4 w3.heap.size (.slice X (liveN ns ls).length x1) (.slice X2 (liveK ns ls).length x2) from hXA)
  have HX4 := Lib.hid (HX3.out.below hba hlt3)
  have HN4 := Lib.hid ((HN3.out.below hba).more hba.size)
  have HL4 := Lib.hid ((HL3.out.below hba).more hba.size)
  have HB4 := Lib.hid (HB3.out.trans (hba.mono (by omega)))
  generalize w3.heap.size = t3 at *
  have hlt4 := HX4.out.lt
  have hlu4 := HT4.out.lt
  clear hXA hba e0 e1 e0a e1a
  refine (rliveG_any A A2 n c m c2 ns ls _ (GAT.out _ HB4.out).1 (GAT.out _ HB4.out).2 HWI.out (by omega) (by omega)).mono ?_
  rintro e w5 ⟨Y, y1, Y2, y2, rfl, o1, o2, hb⟩
  have HT5 := Lib.hid (HT4.out.below hb hlu4)
  have HN5 := Lib.hid ((HN4.out.below hb).more hb.size)
  have HL5 := Lib.hid ((HL4.out.below hb).more hb.size)
  have HM5 := Lib.hid (GN.of_own o1)
  have HK5 := Lib.hid (GL.of_own o2)
  have HB5 := Lib.hid (HB4.out.trans (hb.mono (by omega)))
  have hlt5 := HT5.out.lt
  clear hb o1 o2
  have hXA := Go.heap_alloc_new w5 (.cells #[.slice Y (liveN ns ls).length y1, .slice Y2 (liveK ns ls).length y2] 25)
  have hba := (Below.refl w5.heap.size w5).alloc (Nat.le_refl _) (.cells #[.slice Y (liveN ns ls).length y1, .slice Y2 (liveK ns ls).length y2] 25)
  have HT6 := Lib.hid (HT5.out.below hba hlt5)
  obtain ⟨e0, _⟩ := HT6.out.c0
  obtain ⟨e1, _⟩ := HT6.out.c1
  go_wp2_with (fail)
  generalize w5.alloc (.cells #[.slice Y (liveN ns ls).length y1, .slice Y2 (liveK ns ls).length y2] 25) = w6 at *
  have HU6 := Lib.hid (show GB w6 w5.heap.size (.slice Y (liveN ns ls).length y1) (.slice Y2 (liveK ns ls).length y2) from hXA)
  have HN6 := Lib.hid ((HN5.out.below hba).more hba.size)
  have HL6 := Lib.hid ((HL5.out.below hba).more hba.size)
  have HM6 := Lib.hid ((HM5.out.below hba).more hba.size)
  have HK6 := Lib.hid ((HK5.out.below hba).more hba.size)
  have HB6 := Lib.hid (HB5.out.trans (hba.mono (by have := HB5.out.size; have := HGE.out; omega)))
  refine (same_eq X X2 Y Y2 (liveN ns ls).length x1 (liveK ns ls).length x2 y1 y2 _ _ _ HN6.out HL6.out HM6.out HK6.out (by omega) (by omega)).mono ?_
  rintro e w7 ⟨rfl, hb⟩
  have HT7 := Lib.hid (HT6.out.below hb HT6.out.lt)
  have HN7 := Lib.hid ((HN6.out.below hb).more hb.size)
  have HL7 := Lib.hid ((HL6.out.below hb).more hb.size)
  have HB7 := Lib.hid (HB6.out.trans (hb.mono (by have := HB6.out.size; have := HGE.out; omega)))
  clear hb hXA hba e0 e1
  obtain ⟨e0, _⟩ := HT7.out.c0
  obtain ⟨e1, _⟩ := HT7.out.c1
  by_cases h0 : chkG ns ls = 0
  · have LL := live_live h0
    have HLL := Lib.hid LL
    rw [h0]
    clear h0 LL
    go_wp2_with (fail)
    refine (live_any X X2 (liveN ns ls).length x1 (liveK ns ls).length x2 (liveN ns ls) (liveK ns ls) _ HN7.out HL7.out (liveK_w HW.out) (by omega) (by omega)).mono ?_
    rintro e w8 ⟨Z, z1, Z2, z2, rfl, o1, o2, hb⟩
    rw [HLL.out.1]
    rw [HLL.out.2.1] at o1 ⊢
    rw [HLL.out.2.2] at o2 ⊢
    have HT8 := Lib.hid (HT7.out.below hb HT7.out.lt)
    have HN8 := Lib.hid ((HN7.out.below hb).more hb.size)
    have HL8 := Lib.hid ((HL7.out.below hb).more hb.size)
    have HP8 := Lib.hid (GN.of_own o1)
    have HQ8 := Lib.hid (GL.of_own o2)
    have HB8 := Lib.hid (HB7.out.trans (hb.mono (by have := HB7.out.size; have := HGE.out; omega)))
    clear hb o1 o2 e0 e1
    have hba := (Below.refl w8.heap.size w8).alloc (Nat.le_refl _) (.cells #[.slice Z (liveN ns ls).length z1, .slice Z2 (liveK ns ls).length z2] 25)
    have HT9 := Lib.hid (HT8.out.below hba HT8.out.lt)
    obtain ⟨e0, _⟩ := HT9.out.c0
    obtain ⟨e1, _⟩ := HT9.out.c1
    go_wp2_with (fail)
    generalize w8.alloc (.cells #[.slice Z (liveN ns ls).length z1, .slice Z2 (liveK ns ls).length z2] 25) = w9 at *
    refine (same_eq Z Z2 X X2 (liveN ns ls).length z1 (liveK ns ls).length z2 x1 x2 _ _ _ ((HP8.out.below hba).more hba.size) ((HQ8.out.below hba).more hba.size) ((HN8.out.below hba).more hba.size) ((HL8.out.below hba).more hba.size) (by omega) (by omega)).mono ?_
    rintro e w10 ⟨rfl, hb⟩
    have HB9 := Lib.hid (HB8.out.trans (hba.mono (by have := HB8.out.size; have := HGE.out; omega)))
    have HB10 := Lib.hid (HB9.out.trans (hb.mono (by have := HB9.out.size; have := HGE.out; omega)))
    clear hb hba e0 e1
    go_wp2_with (fail)
    refine (awake_any _).mono ?_
    rintro e w11 ⟨rfl, hb⟩
    go_wp2_with (fail)
    go_ret
    exact ⟨rfl, by have e := HGE.out; subst e; exact HB10.out.trans (hb.mono HB10.out.size)⟩
  · generalize chkG ns ls = r at *
    go_wp2_with (fail)
    refine (awake_any _).mono ?_
    rintro e w8 ⟨rfl, hb⟩
    go_wp2_with (fail)
    go_ret
    exact ⟨rfl, by have e := HGE.out; subst e; exact HB7.out.trans (hb.mono HB7.out.size)⟩

end Go.Proofs.Ytgmljlgoaifneaa
