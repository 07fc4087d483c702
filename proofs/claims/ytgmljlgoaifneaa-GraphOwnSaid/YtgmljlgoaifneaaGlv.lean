/- What is up of a graph: plain; the walks of live and of the reference's up and live. Conditions: as each theorem's hypotheses say. -/
import Derived.Test.YtgmljlgoaifneaaGaw
import Derived.Deep.RegionHeld3
namespace Go.Proofs.Ytgmljlgoaifneaa
open Go.RowKit Flt Go.Mem Go.Lib
set_option linter.unusedVariables false

attribute [local go_sem] run_store_float
set_option maxHeartbeats 3200000
set_option maxRecDepth 100000
theorem cnt_uni {ns : List Nd} (hr : Rise ns) {x : Int} {i : Nat} (hi : i < ns.length) (e : (ndA ns i).id = x) : cntN ns x = i :=
  bs_end (by omega) (fun k hk => by have := hr k i hk hi; omega) (fun k hk hl => by
    by_cases h : k = i
    · subst h; omega
    · have := hr i k (by omega) hl; omega)
theorem cnt_id {ns : List Nd} (hr : Rise ns) {x : Int} (h : hasN ns x = true) : cntN ns x < ns.length ∧ (ndA ns (cntN ns x)).id = x := by
  obtain ⟨i, hi, e⟩ := hasN_iff.1 h
  rw [cnt_uni hr hi e]; exact ⟨hi, e⟩
/-- is a router that is there up -/
def upAt (ns : List Nd) (x : Int) : Bool := (ndA ns (cntN ns x)).up
/-- is a link live -/
def liveL (ns : List Nd) (l : Lk) : Bool := l.up && upAt ns l.a && upAt ns l.b
theorem lnkTo_zero {ns : List Nd} {ls : List Lk} {n : Nat} (h : lnkTo ns ls n = 0) : ∀ k, k < n → lnkBad ns ls k = false ∧ withinI (lkA ls k).w 4697254411347427328 = 0 := fun k hk => by
  have h0 : lnkTo ns ls k = 0 := by
    rcases Decidable.em (lnkTo ns ls k = 0) with e | e
    · exact e
    · have := lnkTo_stay (n := n) (by omega) e; rw [h] at this; exact absurd this.symm e
  have h1 : lnkTo ns ls (k + 1) = 0 := by
    rcases Decidable.em (lnkTo ns ls (k + 1) = 0) with e | e
    · exact e
    · have := lnkTo_stay (n := n) (by omega) e; rw [h] at this; exact absurd this.symm e
  cases hb : lnkBad ns ls k
  · exact ⟨rfl, by rw [← lnkTo_weight h0 hb]; exact h1⟩
  · have := lnkTo_bad (n := k + 1) (by omega) h0 hb; rw [h1] at this; cases this
/-- what is so of a graph that may be -/
structure Fine (ns : List Nd) (ls : List Lk) : Prop where
  n : ns.length ≤ 256
  l : ls.length ≤ 4096
  bad : nodTo ns ns.length = false
  rise : Rise ns
  lnk : ∀ k, k < ls.length → lnkBad ns ls k = false ∧ withinI (lkA ls k).w 4697254411347427328 = 0
theorem fine_of {ns : List Nd} {ls : List Lk} (h : chkG ns ls = 0) : Fine ns ls := by
  unfold chkG at h
  split at h
  · cases h
  · rename_i h1
    split at h
    · cases h
    · rename_i h2
      have h2 : nodTo ns ns.length = false := by simpa using h2
      exact ⟨by omega, by omega, h2, rise_of h2, lnkTo_zero h⟩
theorem Fine.has {ns : List Nd} {ls : List Lk} (h : Fine ns ls) {k : Nat} (hk : k < ls.length) : hasN ns (lkA ls k).a = true ∧ hasN ns (lkA ls k).b = true := by
  have := (h.lnk k hk).1
  unfold lnkBad at this
  simp at this
  exact ⟨this.1.1.1, this.1.1.2⟩
def liveN (ns : List Nd) (ls : List Lk) : List Nd := if chkG ns ls = 0 then ns.filter (·.up) else []
def liveK (ns : List Nd) (ls : List Lk) : List Lk := if chkG ns ls = 0 then ls.filter (liveL ns) else []
theorem ret_gr {fn : Func} {u v a : Value} (h : fn.results = #[.cell 2 25, .tmp 3]) (tmps : Array Value) (w : World) (g : Nat) (hp : tmps.getD 2 undef = .pointer (some ⟨g, 0, none⟩)) (ha : tmps.getD 3 undef = a) (hg : GB w g u v) :
    (results fn tmps).run Try.prog w = .ok (.tuple #[.agg #[u, v], a]) w := by
  simp only [results, h]
  have hl := Go.run_loadVar_row (P := Try.prog) w g 25 25 _ (0, 0) _ hg Try.underlying25 rfl (by kernel_rfl)
  have hp' : tmps[2]?.getD undef = .pointer (some ⟨g, 0, none⟩) := by simpa using hp
  have ha' : tmps[3]?.getD undef = a := by simpa using ha
  simp [Result.andThen, hp', ha', asAddr, hl]
theorem glive_any (A A2 : Option Addr) (n c m c2 : Nat) (ns : List Nd) (l : Lk) (w : World) (hg : GN w w.heap.size A n ns) (hr : Rise ns) (hn : n ≤ 1152921504606846976) (ha : hasN ns l.a = true) (hb : hasN ns l.b = true) :
    Calls Try.prog 40 #[.agg #[.slice A n c, .slice A2 m c2], lkV l] w fun e w' => e = .returned (.bool (liveL ns l)) ∧ Below w.heap.size w w' := by
  obtain ⟨la, lb, lw, lu⟩ := l
  replace ha : hasN ns la = true := ha
  replace hb : hasN ns lb = true := hb
  have hca := cnt_id hr ha
  have hcb := cnt_id hr hb
  obtain ⟨b, off, rfl, hbl, hc⟩ := hg.at (by have := hg.1; omega)
  have ca := (hc (cntN ns la) (by have := hg.1; omega)).2.1
  have cb := (hc (cntN ns lb) (by have := hg.1; omega)).2.1
  rw [← Nat.add_assoc] at ca cb
  have NDA := Lib.hid (fun w' (h : Below w.heap.size w w') => by
    have q := node_any (some ⟨b, off, none⟩) A2 n c m c2 ns la w' ((hg.below h).more h.size) hr (by omega)
    rw [ha] at q; exact q)
  have NDB := Lib.hid (fun w' (h : Below w.heap.size w w') => by
    have q := node_any (some ⟨b, off, none⟩) A2 n c m c2 ns lb w' ((hg.below h).more h.size) hr (by omega)
    rw [hb] at q; exact q)
  have hna : cntN ns la < n := by have := hg.1; omega
  have hnb : cntN ns lb < n := by have := hg.1; omega
  have HLV := Lib.hid (show liveL ns ⟨la, lb, lw, lu⟩ = (lu && (ndA ns (cntN ns la)).up && (ndA ns (cntN ns lb)).up) from rfl)
  obtain ⟨r, hr2⟩ : ∃ r, r = liveL ns ⟨la, lb, lw, lu⟩ := ⟨_, rfl⟩
  have HRR := Lib.hid (hr2.trans HLV.out)
  rw [← hr2]
  clear hc hca hcb hg hr ha hb HLV hr2
  generalize (ndA ns (cntN ns la)).up = ua at *
  generalize (ndA ns (cntN ns lb)).up = ub at *
  generalize cntN ns la = ia at *
  generalize cntN ns lb = ib at *
  unfold lkV
  go_enter Try.func40, Try.ntmps40
  go_wp2_with (fail)
  have hB2 := ((Below.refl w.heap.size w).alloc (Nat.le_refl _) (.cells #[.slice (some ⟨b, off, none⟩) n c, .slice A2 m c2] 25)).alloc (by simp) (.cells #[.int .i64 la, .int .i64 lb, .float .f64 lw, .bool lu] 54)
  have hX1 : ((w.alloc (.cells #[.slice (some ⟨b, off, none⟩) n c, .slice A2 m c2] 25)).alloc (.cells #[.int .i64 la, .int .i64 lb, .float .f64 lw, .bool lu] 54)).heap[w.heap.size]? = some (.cells #[.slice (some ⟨b, off, none⟩) n c, .slice A2 m c2] 25 (0, 0)) := (Go.heap_alloc_old _ _ (by simp)).trans (Go.heap_alloc_new w _)
  have hX2 : ((w.alloc (.cells #[.slice (some ⟨b, off, none⟩) n c, .slice A2 m c2] 25)).alloc (.cells #[.int .i64 la, .int .i64 lb, .float .f64 lw, .bool lu] 54)).heap[w.heap.size + 1]? = some (.cells #[.int .i64 la, .int .i64 lb, .float .f64 lw, .bool lu] 54 (0, 0)) := by
    have := Go.heap_alloc_new (w.alloc (.cells #[.slice (some ⟨b, off, none⟩) n c, .slice A2 m c2] 25)) (.cells #[.int .i64 la, .int .i64 lb, .float .f64 lw, .bool lu] 54)
    rw [show (w.alloc (.cells #[.slice (some ⟨b, off, none⟩) n c, .slice A2 m c2] 25)).heap.size = w.heap.size + 1 by simp] at this
    exact this
  generalize (w.alloc (.cells #[.slice (some ⟨b, off, none⟩) n c, .slice A2 m c2] 25)).alloc (.cells #[.int .i64 la, .int .i64 lb, .float .f64 lw, .bool lu] 54) = w1 at *
  generalize hg1 : w.heap.size + 1 = g1 at *
  generalize hg0 : w.heap.size = g0 at *
  have HGE := Lib.hid hg0
  have x0 := (Go.cell_of_row w1 g0 0 _ _ _ hX1).trans rfl
  have x1 := (Go.cell_of_row w1 g0 1 _ _ _ hX1).trans rfl
  have y0 := (Go.cell_of_row w1 g1 0 _ _ _ hX2).trans rfl
  have y1 := (Go.cell_of_row w1 g1 1 _ _ _ hX2).trans rfl
  have y3 := (Go.cell_of_row w1 g1 3 _ _ _ hX2).trans rfl
  clear hX1 hX2 hg1 hg0
  have HB2 := Lib.hid hB2
  clear hB2
  go_wp2_with (fail)
  refine (NDA.out _ HB2.out).mono ?_
  rintro e w2 ⟨rfl, hb2⟩
  have x0' := keep_cellG x0 hb2
  have x1' := keep_cellG x1 hb2
  have y1' := keep_cellG y1 hb2
  have y3' := keep_cellG y3 hb2
  have HB3 := Lib.hid (HB2.out.trans (hb2.mono (by have := HGE.out; have := HB2.out.size; omega)))
  clear x0 x1 y0 y1 y3 hb2
  go_wp2_with (fail)
  refine (NDB.out _ HB3.out).mono ?_
  rintro e w3 ⟨rfl, hb3⟩
  have x0 := keep_cellG x0' hb3
  have y3 := keep_cellG y3' hb3
  have HB4 := Lib.hid (HB3.out.trans (hb3.mono (by have := HGE.out; have := HB3.out.size; omega)))
  have da := (HB4.out.cell (p := ⟨b, off + ia * 3 + 1, none⟩) (by show b < g0; have := HGE.out; omega)).trans ca
  have db := (HB4.out.cell (p := ⟨b, off + ib * 3 + 1, none⟩) (by show b < g0; have := HGE.out; omega)).trans cb
  clear x0' x1' y1' y3' hb3 ca cb
  cases lu <;> cases ua
  all_goals
    go_wp2_with (fail)
    go_ret
    exact ⟨by rw [HRR.out]; first | rfl | simp, by rw [HGE.out]; exact HB4.out⟩
theorem rup_any (A A2 : Option Addr) (n c m c2 : Nat) (ns : List Nd) (x : Int) (w : World) (hg : GN w w.heap.size A n ns) (hr : Rise ns) (hn : n ≤ 1152921504606846976) (hx : hasN ns x = true) :
    Calls Try.prog 54 #[.agg #[.slice A n c, .slice A2 m c2], .int .i64 x] w fun e w' => e = .returned (.bool (upAt ns x)) ∧ Below w.heap.size w w' := by
  have PL := Lib.hid (fun w' (h : Below w.heap.size w w') => place_yes (A2 := A2) (c := c) (m := m) (c2 := c2) ((hg.below h).more h.size) hn hx)
  have hca := cnt_id hr hx
  obtain ⟨b, off, rfl, hbl, hc⟩ := hg.at (by have := hg.1; omega)
  have HC := Lib.hid hc
  have HU := Lib.hid (fun i (hi : i < n) (e : (ndA ns i).id = x) => cnt_uni hr (by have := hg.1; omega) e)
  clear hc hca hg hr hx
  go_enter Try.func54, Try.ntmps54
  go_wp2_with (fail)
  have hB2 := (Below.refl w.heap.size w).alloc (Nat.le_refl _) (.cells #[.slice (some ⟨b, off, none⟩) n c, .slice A2 m c2] 25)
  have hX1 := Go.heap_alloc_new w (.cells #[.slice (some ⟨b, off, none⟩) n c, .slice A2 m c2] 25)
  generalize w.alloc (.cells #[.slice (some ⟨b, off, none⟩) n c, .slice A2 m c2] 25) = w1 at *
  have x0 := (Go.cell_of_row w1 w.heap.size 0 _ _ _ hX1).trans rfl
  have x1 := (Go.cell_of_row w1 w.heap.size 1 _ _ _ hX1).trans rfl
  have HB2 := Lib.hid hB2
  clear hB2 hX1
  go_wp2_with (fail)
  refine (PL.out _ HB2.out).mono ?_
  rintro e w2 ⟨i, rfl, hi, hid, hb2⟩
  have x0' := keep_cellG x0 hb2
  have HB3 := Lib.hid (HB2.out.trans (hb2.mono HB2.out.size))
  have ca := (HC.out i hi).2.1
  rw [← Nat.add_assoc] at ca
  have da := (HB3.out.cell (p := ⟨b, off + i * 3 + 1, none⟩) hbl).trans ca
  have HI := Lib.hid (HU.out i hi hid)
  clear x0 x1 hb2 ca hid
  have hi0 : (0 : Int) ≤ (i : Int) := by omega
  go_wp2_with (fail)
  go_ret
  exact ⟨by unfold upAt; rw [HI.out]; first | rfl | simp, HB3.out⟩
theorem rlive_any (A A2 : Option Addr) (n c m c2 : Nat) (ns : List Nd) (l : Lk) (w : World) (hg : GN w w.heap.size A n ns) (hr : Rise ns) (hn : n ≤ 1152921504606846976) (ha : hasN ns l.a = true) (hb : hasN ns l.b = true) :
    Calls Try.prog 41 #[.agg #[.slice A n c, .slice A2 m c2], lkV l] w fun e w' => e = .returned (.bool (liveL ns l)) ∧ Below w.heap.size w w' := by
  obtain ⟨la, lb, lw, lu⟩ := l
  replace ha : hasN ns la = true := ha
  replace hb : hasN ns lb = true := hb
  have UPA := Lib.hid (fun w' (h : Below w.heap.size w w') => rup_any A A2 n c m c2 ns la w' ((hg.below h).more h.size) hr hn ha)
  have UPB := Lib.hid (fun w' (h : Below w.heap.size w w') => rup_any A A2 n c m c2 ns lb w' ((hg.below h).more h.size) hr hn hb)
  have HLV := Lib.hid (show liveL ns ⟨la, lb, lw, lu⟩ = (lu && upAt ns la && upAt ns lb) from rfl)
  obtain ⟨r, hr2⟩ : ∃ r, r = liveL ns ⟨la, lb, lw, lu⟩ := ⟨_, rfl⟩
  have HRR := Lib.hid (hr2.trans HLV.out)
  rw [← hr2]
  clear hg hr ha hb HLV hr2
  generalize upAt ns la = ua at *
  generalize upAt ns lb = ub at *
  unfold lkV
  have hB2 := ((Below.refl w.heap.size w).alloc (Nat.le_refl _) (.cells #[.slice A n c, .slice A2 m c2] 25)).alloc (by simp) (.cells #[.int .i64 la, .int .i64 lb, .float .f64 lw, .bool lu] 54)
  have hX1 : ((w.alloc (.cells #[.slice A n c, .slice A2 m c2] 25)).alloc (.cells #[.int .i64 la, .int .i64 lb, .float .f64 lw, .bool lu] 54)).heap[w.heap.size]? = some (.cells #[.slice A n c, .slice A2 m c2] 25 (0, 0)) := (Go.heap_alloc_old _ _ (by simp)).trans (Go.heap_alloc_new w _)
  have hX2 : ((w.alloc (.cells #[.slice A n c, .slice A2 m c2] 25)).alloc (.cells #[.int .i64 la, .int .i64 lb, .float .f64 lw, .bool lu] 54)).heap[w.heap.size + 1]? = some (.cells #[.int .i64 la, .int .i64 lb, .float .f64 lw, .bool lu] 54 (0, 0)) := by
    have := Go.heap_alloc_new (w.alloc (.cells #[.slice A n c, .slice A2 m c2] 25)) (.cells #[.int .i64 la, .int .i64 lb, .float .f64 lw, .bool lu] 54)
    rw [show (w.alloc (.cells #[.slice A n c, .slice A2 m c2] 25)).heap.size = w.heap.size + 1 by simp] at this
    exact this
  have x0 := (Go.cell_of_row _ _ 0 _ _ _ hX1).trans rfl
  have x1 := (Go.cell_of_row _ _ 1 _ _ _ hX1).trans rfl
  have y1 := (Go.cell_of_row _ _ 1 _ _ _ hX2).trans rfl
  have HB2 := Lib.hid hB2
  have HX := Lib.hid (And.intro x0 (And.intro x1 y1))
  clear hX1 hX2 hB2 x0 x1 y1
  go_enter Try.func41, Try.ntmps41
  cases lu
  · go_wp2_with (fail)
    go_ret
    exact ⟨by rw [HRR.out]; rfl, HB2.out⟩
  · cases ua
    · go_wp2_with (fail)
      refine (UPA.out _ HB2.out).mono ?_
      rintro e w2 ⟨rfl, hb2⟩
      go_wp2_with (fail)
      go_ret
      exact ⟨by rw [HRR.out]; rfl, HB2.out.trans (hb2.mono HB2.out.size)⟩
    · go_wp2_with (fail)
      refine (UPA.out _ HB2.out).mono ?_
      rintro e w2 ⟨rfl, hb2⟩
      have x0 := keep_cellG HX.out.1 hb2
      have x1 := keep_cellG HX.out.2.1 hb2
      have y1 := keep_cellG HX.out.2.2 hb2
      have HB3 := Lib.hid (HB2.out.trans (hb2.mono HB2.out.size))
      clear hb2
      go_wp2_with (fail)
      refine (UPB.out _ HB3.out).mono ?_
      rintro e w3 ⟨rfl, hb3⟩
      go_wp2_with (fail)
      go_ret
      exact ⟨by rw [HRR.out]; first | rfl | simp, HB3.out.trans (hb3.mono HB3.out.size)⟩

end Go.Proofs.Ytgmljlgoaifneaa
