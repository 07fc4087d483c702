/- The walk of a change that adds a router behind all others. Conditions: as each theorem's hypotheses say. -/
import Derived.Test.YtgmljlgoaifneaaGin
import Derived.Deep.RegionHeld3
import Derived.Deep.RegionLaw
import Derived.Deep.AppendLies
namespace Go.Proofs.Ytgmljlgoaifneaa
open Go.RowKit Flt Go.Mem Go.Lib
set_option linter.unusedVariables false

theorem heldB3 {w0 w : World} {b0 b1 b2 : Addr} {v0 v1 v2 : Value} (h : w.cell? b0 = some v0 ∧ w.cell? b1 = some v1 ∧ w.cell? b2 = some v2 ∧ Below w0.heap.size w0 w) : Below w0.heap.size w0 w := h.2.2.2
theorem held_keep3 {w0 w w' : World} {b0 b1 b2 : Addr} {v0 v1 v2 : Value} (h : w.cell? b0 = some v0 ∧ w.cell? b1 = some v1 ∧ w.cell? b2 = some v2 ∧ Below w0.heap.size w0 w) (hb : Below w.heap.size w w') :
    w'.cell? b0 = some v0 ∧ w'.cell? b1 = some v1 ∧ w'.cell? b2 = some v2 ∧ Below w0.heap.size w0 w' :=
  ⟨keep_cellG h.1 hb, keep_cellG h.2.1 hb, keep_cellG h.2.2.1 hb, h.2.2.2.trans (hb.mono h.2.2.2.size)⟩
theorem heldB6 {w0 w : World} {b0 b1 b2 b3 b4 b5 : Addr} {v0 v1 v2 v3 v4 v5 : Value} (h : w.cell? b0 = some v0 ∧ w.cell? b1 = some v1 ∧ w.cell? b2 = some v2 ∧ w.cell? b3 = some v3 ∧ w.cell? b4 = some v4 ∧ w.cell? b5 = some v5 ∧ Below w0.heap.size w0 w) : Below w0.heap.size w0 w := h.2.2.2.2.2.2
theorem held_keep6 {w0 w w' : World} {b0 b1 b2 b3 b4 b5 : Addr} {v0 v1 v2 v3 v4 v5 : Value} (h : w.cell? b0 = some v0 ∧ w.cell? b1 = some v1 ∧ w.cell? b2 = some v2 ∧ w.cell? b3 = some v3 ∧ w.cell? b4 = some v4 ∧ w.cell? b5 = some v5 ∧ Below w0.heap.size w0 w) (hb : Below w.heap.size w w') :
    w'.cell? b0 = some v0 ∧ w'.cell? b1 = some v1 ∧ w'.cell? b2 = some v2 ∧ w'.cell? b3 = some v3 ∧ w'.cell? b4 = some v4 ∧ w'.cell? b5 = some v5 ∧ Below w0.heap.size w0 w' :=
  ⟨keep_cellG h.1 hb, keep_cellG h.2.1 hb, keep_cellG h.2.2.1 hb, keep_cellG h.2.2.2.1 hb, keep_cellG h.2.2.2.2.1 hb, keep_cellG h.2.2.2.2.2.1 hb, h.2.2.2.2.2.2.trans (hb.mono h.2.2.2.2.2.2.size)⟩
attribute [local go_sem] run_store_float
set_option maxHeartbeats 1600000
set_option maxRecDepth 100000
/-- a change's block: the graph, then the change -/
def CB (w : World) (g : Nat) (u v : Value) (k a b : Int) (x : Nat) : Prop := w.heap[g]? = some (.cells #[u, v, .int .i64 k, .int .i64 a, .int .i64 b, .float .f64 x] 82 (0, 0))
theorem CB.below {w w' : World} {g B : Nat} {u v : Value} {k a b : Int} {x : Nat} (h : CB w g u v k a b x) (hb : Below B w w') (hg : g < B) : CB w' g u v k a b x := (hb.block g hg).trans h
theorem CB.lt {w : World} {g : Nat} {u v : Value} {k a b : Int} {x : Nat} (h : CB w g u v k a b x) : g < w.heap.size := by
  rcases Nat.lt_or_ge g w.heap.size with hlt | hge
  · exact hlt
  · unfold CB at h; rw [Array.getElem?_eq_none hge] at h; cases h
theorem CB.grown {w w' : World} {g : Nat} {u v : Value} {k a b : Int} {x : Nat} {row : Option Nat} (h : CB w g u v k a b x) (hg : w.grownBy w' row) (hr : row ≠ some g) : CB w' g u v k a b x := by
  unfold CB; rw [hg.block g h.lt (fun e => hr e.symm)]; exact h
theorem CB.c0 {w : World} {g : Nat} {u v : Value} {k a b : Int} {x : Nat} (h : CB w g u v k a b x) : w.cell? ⟨g, 0, none⟩ = some (u) ∧ w.frozen? ⟨g, 0, none⟩ = false := ⟨(Go.cell_of_row w g 0 _ _ _ h).trans rfl, Go.frozen_of_row w g 0 _ _ h⟩
theorem CB.c1 {w : World} {g : Nat} {u v : Value} {k a b : Int} {x : Nat} (h : CB w g u v k a b x) : w.cell? ⟨g, 1, none⟩ = some (v) ∧ w.frozen? ⟨g, 1, none⟩ = false := ⟨(Go.cell_of_row w g 1 _ _ _ h).trans rfl, Go.frozen_of_row w g 1 _ _ h⟩
theorem CB.c2 {w : World} {g : Nat} {u v : Value} {k a b : Int} {x : Nat} (h : CB w g u v k a b x) : w.cell? ⟨g, 2, none⟩ = some (.int .i64 k) ∧ w.frozen? ⟨g, 2, none⟩ = false := ⟨(Go.cell_of_row w g 2 _ _ _ h).trans rfl, Go.frozen_of_row w g 2 _ _ h⟩
theorem CB.c3 {w : World} {g : Nat} {u v : Value} {k a b : Int} {x : Nat} (h : CB w g u v k a b x) : w.cell? ⟨g, 3, none⟩ = some (.int .i64 a) ∧ w.frozen? ⟨g, 3, none⟩ = false := ⟨(Go.cell_of_row w g 3 _ _ _ h).trans rfl, Go.frozen_of_row w g 3 _ _ h⟩
theorem CB.c4 {w : World} {g : Nat} {u v : Value} {k a b : Int} {x : Nat} (h : CB w g u v k a b x) : w.cell? ⟨g, 4, none⟩ = some (.int .i64 b) ∧ w.frozen? ⟨g, 4, none⟩ = false := ⟨(Go.cell_of_row w g 4 _ _ _ h).trans rfl, Go.frozen_of_row w g 4 _ _ h⟩
theorem CB.c5 {w : World} {g : Nat} {u v : Value} {k a b : Int} {x : Nat} (h : CB w g u v k a b x) : w.cell? ⟨g, 5, none⟩ = some (.float .f64 x) ∧ w.frozen? ⟨g, 5, none⟩ = false := ⟨(Go.cell_of_row w g 5 _ _ _ h).trans rfl, Go.frozen_of_row w g 5 _ _ h⟩
theorem CB.s0 {w : World} {g : Nat} {u v : Value} {k a b : Int} {x : Nat} (h : CB w g u v k a b x) (u' : Value) : CB (w.setCell ⟨g, 0, none⟩ u') g u' v k a b x := (Go.heap_setCell_same w g 0 _ _ _ h).trans rfl
theorem CB.s1 {w : World} {g : Nat} {u v : Value} {k a b : Int} {x : Nat} (h : CB w g u v k a b x) (v' : Value) : CB (w.setCell ⟨g, 1, none⟩ v') g u v' k a b x := (Go.heap_setCell_same w g 1 _ _ _ h).trans rfl
theorem keep_grown {w w' : World} {p : Addr} {v : Value} {row : Option Nat} (h : w.cell? p = some v) (hg : w.grownBy w' row) (hr : row ≠ some p.block) : w'.cell? p = some v := by
  have e := hg.block p.block (World.block_lt_of_cell? w _ h) (fun e => hr e.symm)
  unfold World.cell? at h ⊢
  rw [e]; exact h
theorem new_cells2 (w : World) (cs : List Value) (t : TypeId) : ∀ (j : Nat) (u : Value), cs[j]? = some u → (w.alloc (.cells cs.toArray t)).cell? ⟨w.heap.size, j, none⟩ = some u := fun j u hu => by
  rw [Go.cell_of_row (w.alloc (.cells cs.toArray t)) w.heap.size j cs.toArray t (0, 0) (Go.heap_alloc_new w _)]
  simpa using hu
theorem CB.alloc {w : World} {g : Nat} {u v : Value} {k a b : Int} {x : Nat} (h : CB w g u v k a b x) (o : Obj) : CB (w.alloc o) g u v k a b x := by
  unfold CB; rw [Go.heap_alloc_old _ _ h.lt]; exact h
theorem CB.drewN {w : World} {g : Nat} {u v : Value} {k a b : Int} {x : Nat} (h : CB w g u v k a b x) (q : Nat) : CB (w.drewN q) g u v k a b x := h
theorem own_set2 {w : World} {base size n g j : Nat} {e : TypeId} {v u : Value} {xs : List Value} (h : w.ownsRow base e size v n xs) (hg : v.ownBlock ≠ some g) : (w.setCell ⟨g, j, none⟩ u).ownsRow base e size v n xs :=
  h.kept (row := some g) ⟨rfl, rfl, rfl, by simp [World.setCell], fun k _ hk => Go.heap_setCell_other w ⟨g, j, none⟩ k u (fun e => hk (by simp [e]))⟩ (.inr hg)
theorem own_ne {w : World} {base size n g : Nat} {e : TypeId} {v uu vv : Value} {k a b : Int} {x : Nat} {xs : List Value} (h : w.ownsRow base e size v n xs) (hc : CB w g uu vv k a b x) (he : e ≠ 82) : v.ownBlock ≠ some g := fun hb => by
  rcases h.2 with ⟨rfl, _⟩ | ⟨g2, cap, cur, rfl, _, hh, _⟩
  · simp [Value.ownBlock] at hb
  · simp [Value.ownBlock] at hb
    subst hb
    unfold CB at hc
    rw [hc] at hh
    simp at hh
    exact he hh.2.symm
theorem add_any (A A2 : Option Addr) (n c m c2 base g : Nat) (k a b : Int) (x : Nat) (ns : List Nd) (w : World) (hcb : CB w g (.slice A n c) (.slice A2 m c2) k a b x) (hown : w.ownsRow base 52 3 (.slice A n c) n (ns.flatMap ndC)) (hne : (Value.slice A n c).ownBlock ≠ some g) (hb : base ≤ w.heap.size) (hbg : base ≤ g)
    (hr : Rise ns) (hid : idOk a = true) (hno : hasN ns a = false) (hcnt : cntN ns a = n) (hn : n < 256) :
    Calls Try.prog 66 #[.pointer (some ⟨g, 0, none⟩)] w fun e w' => ∃ A' c', e = .returned (.int .i64 0) ∧ CB w' g (.slice A' (n + 1) c') (.slice A2 m c2) k a b x ∧ w'.ownsRow base 52 3 (.slice A' (n + 1) c') (n + 1) ((ns ++ [(⟨a, true, false⟩ : Nd)]).flatMap ndC) ∧ Below base w w' ∧ (∀ q, q < w.heap.size → q ≠ g → some q ≠ (Value.slice A n c).ownBlock → w'.heap[q]? = w.heap[q]?) := by
  have HCB := Lib.hid hcb
  have HO := Lib.hid hown
  have HNE := Lib.hid hne
  have HB0 := Lib.hid hb
  have ND := Lib.hid (fun w' (h : Below w.heap.size w w') => by
    have q := node_any A A2 n c m c2 ns a w' (((GN.of_own hown).below h).more h.size) hr (by omega)
    rw [hcnt, hno] at q; exact q)
  obtain ⟨p0, f0⟩ := hcb.c0
  obtain ⟨p1, _⟩ := hcb.c1
  obtain ⟨p3, _⟩ := hcb.c3
  have hB := Below.refl w.heap.size w
  have hBd := hB.drew
  clear hcb hown hne hr hno hcnt
  go_enter Try.func66, Try.ntmps66
  go_wp2_with (fail)
  go_region_held3 (fun w' => w'.cell? ⟨g, 0, none⟩ = some (.slice A n c) ∧ w'.cell? ⟨g, 1, none⟩ = some (.slice A2 m c2) ∧ w'.cell? ⟨g, 3, none⟩ = some (.int .i64 a) ∧ Below w.heap.size w w')
    (first | exact held_keep3 (by assumption) hb | go_keep)
    (first | (go_at_call 27; refine (ND.out _ (heldB3 (by assumption))).mono ?_; rintro z w' ⟨rfl, hb⟩))
  have h4 := heldB3 (by assumption)
  have q0 := keep_cellG p0 h4
  have q1 := keep_cellG p1 h4
  have q3 := keep_cellG p3 h4
  have HOQ := Lib.hid (own_drewN (own_below HO.out h4) 1)
  have HCQ := Lib.hid ((HCB.out.below h4 HCB.out.lt).drewN 1)
  have HBQ := Lib.hid (below_drewN (h4.mono HB0.out) 1)
  have HLE := Lib.hid (Nat.le_trans HB0.out h4.size)
  have HB4 := Lib.hid h4
  have HQ0 := Lib.hid (fun q (hq : q < w.heap.size) => Nat.lt_of_lt_of_le hq h4.size)
  have HQL := Lib.hid (fun q (hq : q < w.heap.size) o => Nat.lt_of_lt_of_le (Nat.lt_of_lt_of_le hq h4.size) ((Below.refl _ _).alloc (Nat.le_refl _) o).size)
  have hcidx : ¬ (256 : Int) ≤ (n : Int) := by omega
  clear hB hBd p0 f0 p1 p3
  go_wp2_with (first | (go_at_call 26; refine (checkid_ok hid _).mono ?_; rintro e w' ⟨rfl, hww⟩; subst hww))
  have pa0 := fun o => alloc_keep q0 o
  have pa3 := fun o => alloc_keep q3 o
  go_region_law (first | (go_simp; go_at_call 87; refine (insN_end A n c base _ 1 (ns.flatMap ndC) (ndC ⟨a, true, false⟩) _ (World.ownsRow.alloc HOQ.out _) rfl (new_cells2 _ (ndC ⟨a, true, false⟩) _) (oneN _) (by omega) (by have := HLE.out; simp; omega)).mono ?_; rintro e w5 ⟨A', c', rfl, ho5, hg5⟩; have hc5 := (HCQ.out.alloc _).grown hg5 HNE.out; have z0 := hc5.c0.1; have z1 := hc5.c0.2; have HC5 := Lib.hid hc5; have HO5 := Lib.hid ho5; have HK5 : Hid (∀ q, q < w.heap.size → q ≠ g → some q ≠ (Value.slice A n c).ownBlock → w5.heap[q]? = w.heap[q]?) := Lib.hid (fun q hq _ hr => (hg5.block q (HQL.out q hq _) hr).trans ((Go.heap_alloc_old _ _ (HQ0.out q hq)).trans (HB4.out.block q hq))); have HB5 := Lib.hid ((HBQ.out.alloc HLE.out _).grown hg5 (by have := HLE.out; simp; omega) (fun k hk => (HO.out.lt k hk).1)); clear ho5 hg5 hc5))
  all_goals
    go_wp2_with (fail)
    go_ret
    exact ⟨A', c', rfl, HC5.out.s0 _, by rw [List.flatMap_append]; exact own_set2 (by simpa using HO5.out) (own_ne HO5.out HC5.out (by decide)), HB5.out.setCell (p := ⟨g, 0, none⟩) hbg _, fun q hq hqg hqr => (Go.heap_setCell_other w5 ⟨g, 0, none⟩ q _ hqg).trans (HK5.out q hq hqg hqr)⟩

end Go.Proofs.Ytgmljlgoaifneaa
