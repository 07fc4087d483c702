/- The walk of the reference's Copy. Conditions: slices of less than 2^43 elements. -/
import Derived.Test.YtgmljlgoaifneaaGrc
import Derived.Deep.RegionLaw
import Derived.Deep.AppendLies
import Derived.Laws.OwnMore
import Derived.Laws.MakeOwn
namespace Go.Proofs.Ytgmljlgoaifneaa
open Go.RowKit Flt Go.Mem Go.Lib
set_option linter.unusedVariables false

attribute [local go_sem] run_store_float
set_option maxHeartbeats 1600000
set_option maxRecDepth 100000
theorem infoND : (Try.prog.info? 52).map (fun i => (i.zero, i.size, i.bytes)) = some (some (.agg #[.int .i64 0, .bool false, .bool false]), 3, 16) := by kernel_rfl
theorem infoLK : (Try.prog.info? 54).map (fun i => (i.zero, i.size, i.bytes)) = some (some (.agg #[.int .i64 0, .int .i64 0, .float .f64 0, .bool false]), 4, 32) := by kernel_rfl
theorem info_partsG {P : Program} {e : TypeId} {z : Value} {s b : Nat} (h : (P.info? e).map (fun i => (i.zero, i.size, i.bytes)) = some (some z, s, b)) : ∃ i, P.info? e = some i ∧ i.zero = some z ∧ i.size = s ∧ i.bytes = b := by
  cases hi : P.info? e with
  | none => rw [hi] at h; cases h
  | some i => rw [hi] at h; simp at h; exact ⟨i, rfl, h.1, h.2.1, h.2.2⟩
theorem take_nd {ns : List Nd} {i : Nat} (h : i < ns.length) : ns.take (i + 1) = ns.take i ++ [ndA ns i] := by
  rw [List.take_add_one, ndA_some h]; rfl
theorem take_lk {ls : List Lk} {i : Nat} (h : i < ls.length) : ls.take (i + 1) = ls.take i ++ [lkA ls i] := by
  rw [List.take_add_one, lkA_some h]; rfl
theorem oneN (x : Nd) : ∀ u ∈ ndC x, u.oneCell' = true := by intro u hu; simp [ndC] at hu; rcases hu with rfl | rfl | rfl <;> rfl
theorem oneL (x : Lk) : ∀ u ∈ lkC x, u.oneCell' = true := by intro u hu; simp [lkC] at hu; rcases hu with rfl | rfl | rfl | rfl <;> rfl
theorem GN.of_own {w : World} {base n c : Nat} {e : TypeId} {A : Option Addr} {l : List Nd} (h : w.ownsRow base e 3 (.slice A n c) n (l.flatMap ndC)) : GN w w.heap.size A n l :=
  ⟨by have := h.1; rw [flat_len ndC 3 (fun _ => rfl)] at this; omega, Row.of_own h⟩
theorem GL.of_own {w : World} {base n c : Nat} {e : TypeId} {A : Option Addr} {l : List Lk} (h : w.ownsRow base e 4 (.slice A n c) n (l.flatMap lkC)) : GL w w.heap.size A n l :=
  ⟨by have := h.1; rw [flat_len lkC 4 (fun _ => rfl)] at this; omega, Row.of_own h⟩
/-- a graph's block -/
def GB (w : World) (g : Nat) (u v : Value) : Prop := w.heap[g]? = some (.cells #[u, v] 25 (0, 0))
theorem GB.below {w w' : World} {g B : Nat} {u v : Value} (h : GB w g u v) (hb : Below B w w') (hg : g < B) : GB w' g u v := (hb.block g hg).trans h
theorem GB.drewN {w : World} {g : Nat} {u v : Value} (h : GB w g u v) (q : Nat) : GB (w.drewN q) g u v := h
theorem GB.lt {w : World} {g : Nat} {u v : Value} (h : GB w g u v) : g < w.heap.size := by
  rcases Nat.lt_or_ge g w.heap.size with hlt | hge
  · exact hlt
  · unfold GB at h; rw [Array.getElem?_eq_none hge] at h; cases h
theorem GB.set {w : World} {g g2 : Nat} {u v : Value} (h : GB w g u v) (hg : g ≠ g2) (j : Nat) (x : Value) : GB (w.setCell ⟨g2, j, none⟩ x) g u v := by
  unfold GB; rw [Go.heap_setCell_other w _ _ _ hg]; exact h
theorem GB.c0 {w : World} {g : Nat} {u v : Value} (h : GB w g u v) : w.cell? ⟨g, 0, none⟩ = some u ∧ w.frozen? ⟨g, 0, none⟩ = false := ⟨(Go.cell_of_row w g 0 _ _ _ h).trans rfl, Go.frozen_of_row w g 0 _ _ h⟩
theorem GB.c1 {w : World} {g : Nat} {u v : Value} (h : GB w g u v) : w.cell? ⟨g, 1, none⟩ = some v ∧ w.frozen? ⟨g, 1, none⟩ = false := ⟨(Go.cell_of_row w g 1 _ _ _ h).trans rfl, Go.frozen_of_row w g 1 _ _ h⟩
theorem GB.s0 {w : World} {g : Nat} {u v : Value} (h : GB w g u v) (u' : Value) : GB (w.setCell ⟨g, 0, none⟩ u') g u' v := (Go.heap_setCell_same w g 0 _ _ _ h).trans rfl
theorem GB.s1 {w : World} {g : Nat} {u v : Value} (h : GB w g u v) (v' : Value) : GB (w.setCell ⟨g, 1, none⟩ v') g u v' := (Go.heap_setCell_same w g 1 _ _ _ h).trans rfl
theorem own_below {w w' : World} {base size n : Nat} {e : TypeId} {v : Value} {xs : List Value} (h : w.ownsRow base e size v n xs) (hb : Below w.heap.size w w') : w'.ownsRow base e size v n xs :=
  h.kept (row := none) ⟨hb.os, hb.tape, hb.output, hb.size, fun k hk _ => hb.block k hk⟩ (by cases v.ownBlock <;> simp)
theorem own_set {w : World} {base size n g j : Nat} {e : TypeId} {v u : Value} {xs : List Value} (h : w.ownsRow base e size v n xs) (hg : g < base) : (w.setCell ⟨g, j, none⟩ u).ownsRow base e size v n xs :=
  h.kept (row := some g) ⟨rfl, rfl, rfl, by simp [World.setCell], fun k _ hk => Go.heap_setCell_other w ⟨g, j, none⟩ k u (fun e => hk (by simp [e]))⟩ (by
    right
    intro e
    have := (h.lt g e).1
    omega)
theorem own_drewN {w : World} {base size n : Nat} {e : TypeId} {v : Value} {xs : List Value} (h : w.ownsRow base e size v n xs) (q : Nat) : (w.drewN q).ownsRow base e size v n xs := h
theorem own_mono {w : World} {base base2 size n : Nat} {e : TypeId} {v : Value} {xs : List Value} (h : w.ownsRow base e size v n xs) (hb : base2 ≤ base) : w.ownsRow base2 e size v n xs := by
  refine ⟨h.1, ?_⟩
  rcases h.2 with hn | ⟨g, cap, cur, e1, hg, rest⟩
  · exact .inl hn
  · exact .inr ⟨g, cap, cur, e1, by omega, rest⟩
theorem own_keep {w w' : World} {base size n B : Nat} {e : TypeId} {v : Value} {xs : List Value} (h : w.ownsRow base e size v n xs) (hb : Below B w w') (hk : ∀ k, v.ownBlock = some k → k < B) : w'.ownsRow base e size v n xs := by
  refine ⟨h.1, ?_⟩
  rcases h.2 with hn | ⟨g, cap, cur, e1, hg, hh, rest⟩
  · exact .inl hn
  · refine .inr ⟨g, cap, cur, e1, hg, ?_, rest⟩
    rw [hb.block g (hk g (by rw [e1]; rfl))]; exact hh
theorem new_cells (w : World) (cs : List Value) (t : TypeId) : ∀ (j : Nat) (u : Value), cs[j]? = some u → (w.alloc (.cells cs.toArray t)).cell? ((⟨w.heap.size, 0, none⟩ : Addr).add j) = some u := fun j u hu => by
  rw [addAt, Nat.zero_add, Go.cell_of_row (w.alloc (.cells cs.toArray t)) w.heap.size j cs.toArray t (0, 0) (Go.heap_alloc_new w _)]
  simpa using hu
theorem GB.grown {w w' : World} {g B : Nat} {u v : Value} {row : Option Nat} (h : GB w g u v) (hg : w.grownBy w' row) (hr : ∀ k, row = some k → B ≤ k) (hlt : g < B) : GB w' g u v := by
  unfold GB; rw [hg.block g h.lt (fun e => by have := hr g e.symm; omega)]; exact h
theorem GB.alloc {w : World} {g : Nat} {u v : Value} (h : GB w g u v) (o : Obj) : GB (w.alloc o) g u v := by
  unfold GB; rw [Go.heap_alloc_old _ _ h.lt]; exact h
theorem ret_graph {fn : Func} {u v : Value} (h : fn.results = #[.cell 2 25]) (tmps : Array Value) (w : World) (g : Nat) (hp : tmps.getD 2 undef = .pointer (some ⟨g, 0, none⟩)) (hg : GB w g u v) :
    (results fn tmps).run Try.prog w = .ok (.agg #[u, v]) w :=
  Go.results_cell_row h tmps w g 25 _ (0, 0) _ hp hg Try.underlying25 rfl (by kernel_rfl)
theorem copy_any (A A2 : Option Addr) (n c m c2 : Nat) (ns : List Nd) (ls : List Lk) (w : World) (hg : GN w w.heap.size A n ns) (hl : GL w w.heap.size A2 m ls) (hn : n * 16 ≤ 140737488355328) (hm : m * 32 ≤ 140737488355328) :
    Calls Try.prog 11 #[.agg #[.slice A n c, .slice A2 m c2]] w fun e w' => ∃ B d B2 d2, e = .returned (.agg #[.slice B n d, .slice B2 m d2]) ∧ w'.ownsRow w.heap.size 52 3 (.slice B n d) n (ns.flatMap ndC) ∧ w'.ownsRow w.heap.size 54 4 (.slice B2 m d2) m (ls.flatMap lkC) ∧ Below w.heap.size w w' := by
  obtain ⟨iN, hiN, hzN0, hzN1, hzN2⟩ := info_partsG infoND
  obtain ⟨iL, hiL, hzL0, hzL1, hzL2⟩ := info_partsG infoLK
  have HN := Lib.hid hg
  have HL := Lib.hid hl
  clear hg hl
  go_enter Try.func11, Try.ntmps11
  go_wp2_with (fail)
  have hX0 := Go.heap_alloc_new w (.cells #[.slice A n c, .slice A2 m c2] 25)
  have hX1 := Go.heap_alloc_new (w.alloc (.cells #[.slice A n c, .slice A2 m c2] 25)) (.cells #[.slice none 0 0, .slice none 0 0] 25)
  have hX2 := Go.heap_alloc_new ((w.alloc (.cells #[.slice A n c, .slice A2 m c2] 25)).alloc (.cells #[.slice none 0 0, .slice none 0 0] 25)) (.cells #[.slice none 0 0, .slice none 0 0] 25)
  have hB0 := (((Below.refl w.heap.size w).alloc (Nat.le_refl _) (.cells #[.slice A n c, .slice A2 m c2] 25)).alloc (by simp) (.cells #[.slice none 0 0, .slice none 0 0] 25)).alloc (by simp; omega) (.cells #[.slice none 0 0, .slice none 0 0] 25)
  have hG0 : GB (((w.alloc (.cells #[.slice A n c, .slice A2 m c2] 25)).alloc (.cells #[.slice none 0 0, .slice none 0 0] 25)).alloc (.cells #[.slice none 0 0, .slice none 0 0] 25)) w.heap.size (.slice A n c) (.slice A2 m c2) := by
    unfold GB; rw [Go.heap_alloc_old _ _ (by simp; omega), Go.heap_alloc_old _ _ (by simp)]; exact hX0
  have hG1 : GB (((w.alloc (.cells #[.slice A n c, .slice A2 m c2] 25)).alloc (.cells #[.slice none 0 0, .slice none 0 0] 25)).alloc (.cells #[.slice none 0 0, .slice none 0 0] 25)) (w.heap.size + 1) (.slice none 0 0) (.slice none 0 0) := by
    unfold GB; rw [Go.heap_alloc_old _ _ (by simp)]
    rw [show (w.alloc (.cells #[.slice A n c, .slice A2 m c2] 25)).heap.size = w.heap.size + 1 by simp] at hX1; exact hX1
  have hG2 : GB (((w.alloc (.cells #[.slice A n c, .slice A2 m c2] 25)).alloc (.cells #[.slice none 0 0, .slice none 0 0] 25)).alloc (.cells #[.slice none 0 0, .slice none 0 0] 25)) (w.heap.size + 1 + 1) (.slice none 0 0) (.slice none 0 0) := by
    rw [show ((w.alloc (.cells #[.slice A n c, .slice A2 m c2] 25)).alloc (.cells #[.slice none 0 0, .slice none 0 0] 25)).heap.size = w.heap.size + 1 + 1 by simp] at hX2; exact hX2
  clear hX0 hX1 hX2
  generalize ((w.alloc (.cells #[.slice A n c, .slice A2 m c2] 25)).alloc (.cells #[.slice none 0 0, .slice none 0 0] 25)).alloc (.cells #[.slice none 0 0, .slice none 0 0] 25) = w0 at *
  generalize hg2 : w.heap.size + 1 + 1 = g2 at *
  generalize hg1 : w.heap.size + 1 = g1 at *
  generalize hg0 : w.heap.size = g0 at *
  have HGG := Lib.hid (show g1 = g0 + 1 ∧ g2 = g0 + 2 from ⟨by omega, by omega⟩)
  have HGE := Lib.hid hg0
  have HG0 := Lib.hid hG0
  have HG1 := Lib.hid hG1
  have HG2 := Lib.hid hG2
  have HB0 := Lib.hid hB0
  clear hg2 hg1 hg0 hG0 hG1 hG2 hB0
  go_loopw [4] (fun iv wr => ∃ (i : Nat) (v : Value), i ≤ n ∧ iv = .int .i64 i ∧ wr.ownsRow (g0 + 3) 52 3 v i ((ns.take i).flatMap ndC) ∧ Hid (GB wr g0 (.slice A n c) (.slice A2 m c2)) ∧ Hid (GB wr g1 (.slice none 0 0) (.slice none 0 0)) ∧ Hid (GB wr g2 v (.slice none 0 0)) ∧ Hid (Below g0 w wr)) (fun iv _ => n - (intOf iv).toNat)
  case atStart => exact ⟨0, _, Nat.zero_le _, rfl, World.ownsRow_nil _ _ _ _, HG0, HG1, HG2, HB0⟩
  case round =>
    obtain ⟨i, v, hi, rfl, hown, HC0, HC1, HC2, HB⟩ := hrel
    obtain ⟨wa, rfl⟩ : ∃ wa : World, wa = wr := ⟨_, rfl⟩
    obtain ⟨e00, _⟩ := HC0.out.c0
    obtain ⟨e01, _⟩ := HC0.out.c1
    obtain ⟨e20, f20⟩ := HC2.out.c0
    have hbs : g0 + 3 ≤ wa.heap.size := by have := HC2.out.lt; have := HGG.out; omega
    by_cases hin : i < n
    · obtain ⟨b, off, rfl, hbl, hc⟩ := HN.out.at (by omega)
      obtain ⟨c0, c1, c2'⟩ := hc i hin
      have d0 := (HB.out.cell (p := ⟨b, off + i * 3, none⟩) hbl).trans c0
      have d1 := (HB.out.cell (p := ⟨b, off + (i * 3 + 1), none⟩) hbl).trans c1
      have d2 := (HB.out.cell (p := ⟨b, off + (i * 3 + 2), none⟩) hbl).trans c2'
      rw [← Nat.add_assoc] at d1 d2
      have HTK := Lib.hid (take_nd (ns := ns) (i := i) (by rw [HN.out.1]; exact hin))
      have hkb : (i + 1) * 16 ≤ 140737488355328 := by omega
      obtain ⟨x, hx⟩ : ∃ x, x = ndA ns i := ⟨_, rfl⟩
      rw [← hx] at d0 d1 d2 HTK
      obtain ⟨xi, xu, xm⟩ := x
      clear hc c0 c1 c2' hx
      go_wp2_with (fail)
      have hownd : wa.drew.ownsRow (g0 + 3) 52 3 v i ((ns.take i).flatMap ndC) := hown
      have hOL := Lib.hid (fun k hk => (hown.lt k hk).1)
      have HC0d := Lib.hid (fun o => GB.alloc (show GB wa.drew g0 _ _ from HC0.out) o)
      have HC1d := Lib.hid (fun o => GB.alloc (show GB wa.drew g1 _ _ from HC1.out) o)
      have HC2d := Lib.hid (fun o => GB.alloc (show GB wa.drew g2 _ _ from HC2.out) o)
      have HBd := Lib.hid (fun o => (show Below g0 w wa.drew from below_drewN HB.out 1).alloc (by show g0 ≤ wa.heap.size; omega) o)
      have e2a := fun o => alloc_keep (show wa.drew.cell? _ = some _ from e20) o
      have e2b := fun o => alloc_keep e20 o
      have e2c := fun o => (show (wa.alloc o).drew.cell? _ = some _ from alloc_keep e20 o)
      go_region_law (refine step_append_lies _ rfl (.tmp 15) (.tmp 21) 22 rfl (g0 + 3) 52 iN (.agg #[.int .i64 0, .bool false, .bool false]) 3 16 Try.underlying22 hiN hzN0 hzN1 hzN2 rfl (by decide) v i ((ns.take i).flatMap ndC) (by simp [Act.eval]) (World.ownsRow.alloc hownd _) ⟨wa.heap.size, 0, none⟩ 1 1 (ndC ⟨xi, xu, xm⟩) (by simp [Act.eval]) rfl (new_cells wa.drew (ndC ⟨xi, xu, xm⟩) _) (oneN _) (by decide) (by unfold maxLen; omega) hkb (by simp; omega) (wa.heap.size + 1) (by simp) ?_; intro g cap w1 hown1 hgrow _ _; have hz := (HC2d.out _).grown hgrow hOL.out (by have := HGG.out; omega); have hz0 := hz.c0.1; have hz1 := hz.c0.2; have HO := Lib.hid hown1; have HW := Lib.hid ((Below.refl (g0 + 3) _).grown hgrow (by simp; omega) hOL.out); have HW0 := Lib.hid ((HBd.out _).grown hgrow (by simp; omega) (fun k hk => by have := hOL.out k hk; omega)); have HZ := Lib.hid hz; have HZ0 := Lib.hid ((HC0d.out _).grown hgrow hOL.out (by omega)); have HZ1 := Lib.hid ((HC1d.out _).grown hgrow hOL.out (by have := HGG.out; omega)); clear hown1 hgrow hz)
      all_goals
        go_wp2_with (fail)
        clear hz0 hz1 hownd
        go_roundw
        case rel =>
          have e := HGG.out
          exact ⟨i + 1, _, by omega, by go_num, by rw [HTK.out, List.flatMap_append]; exact own_set (by simpa using HO.out) (by omega), Lib.hid (HZ0.out.set (by omega) _ _), Lib.hid (HZ1.out.set (by omega) _ _), Lib.hid (HZ.out.s0 _), Lib.hid (HW0.out.setCell (p := ⟨g2, 0, none⟩) (by show _ ≤ g2; omega) _)⟩
        case measure => simp [intOf]; omega
    · obtain rfl : i = n := by omega
      rw [List.take_of_length_le (by rw [HN.out.1]; exact Nat.le_refl _)] at hown
      have HON := Lib.hid hown
      have HOB := Lib.hid (fun k hk => (hown.lt k hk).2)
      obtain ⟨B, hB⟩ : ∃ B, B = wa.heap.size := ⟨_, rfl⟩
      rw [← hB] at HOB
      have HBB := Lib.hid hB
      clear hown hB
      go_wp2_with (fail)
      have HON0 := HON
      have HC00 := HC0
      have HC10 := HC1
      have HC20 := HC2
      have HBa := HB
      clear HC0 HC1 HC2 HB HON e00 e01 e20 f20
      go_loopw [5] (fun jv wr => ∃ (j : Nat) (v2 : Value), j ≤ m ∧ jv = .int .i64 j ∧ wr.ownsRow B 54 4 v2 j ((ls.take j).flatMap lkC) ∧ Hid (wr.ownsRow (g0 + 3) 52 3 v i (ns.flatMap ndC)) ∧ Hid (GB wr g0 (.slice A i c) (.slice A2 m c2)) ∧ Hid (GB wr g1 (.slice none 0 0) (.slice none 0 0)) ∧ Hid (GB wr g2 v v2) ∧ Hid (Below g0 w wr) ∧ B ≤ wr.heap.size) (fun jv _ => m - (intOf jv).toNat)
      case atStart => exact ⟨0, _, Nat.zero_le _, rfl, World.ownsRow_nil _ _ _ _, HON0, HC00, HC10, HC20, HBa, by rw [HBB.out]; exact Nat.le_refl _⟩
      case round =>
        obtain ⟨j, v2, hj, rfl, hown, HON, HC0, HC1, HC2, HB, hbs⟩ := hrel
        obtain ⟨wb, rfl⟩ : ∃ wb : World, wb = wr := ⟨_, rfl⟩
        obtain ⟨e00, _⟩ := HC0.out.c0
        obtain ⟨e01, _⟩ := HC0.out.c1
        obtain ⟨e20, f20⟩ := HC2.out.c0
        obtain ⟨e21, f21⟩ := HC2.out.c1
        by_cases hjm : j < m
        · obtain ⟨b, off, rfl, hbl, hc⟩ := HL.out.at (by omega)
          obtain ⟨c0, c1, c2', c3⟩ := hc j hjm
          have d0 := (HB.out.cell (p := ⟨b, off + j * 4, none⟩) hbl).trans c0
          have d1 := (HB.out.cell (p := ⟨b, off + (j * 4 + 1), none⟩) hbl).trans c1
          have d2 := (HB.out.cell (p := ⟨b, off + (j * 4 + 2), none⟩) hbl).trans c2'
          have d3 := (HB.out.cell (p := ⟨b, off + (j * 4 + 3), none⟩) hbl).trans c3
          rw [← Nat.add_assoc] at d1 d2 d3
          have HTK := Lib.hid (take_lk (ls := ls) (i := j) (by rw [HL.out.1]; exact hjm))
          have hkb : (j + 1) * 32 ≤ 140737488355328 := by omega
          obtain ⟨x, hx⟩ : ∃ x, x = lkA ls j := ⟨_, rfl⟩
          rw [← hx] at d0 d1 d2 d3 HTK
          obtain ⟨xa, xb, xw, xu⟩ := x
          clear hc c0 c1 c2' c3 hx
          go_wp2_with (fail)
          have hownd : wb.drew.ownsRow B 54 4 v2 j ((ls.take j).flatMap lkC) := hown
          have HONd := Lib.hid (show wb.drew.ownsRow (g0 + 3) 52 3 v i (ns.flatMap ndC) from HON.out)
          have hgB : g0 + 3 ≤ B := by have := HC20.out.lt; have := HGG.out; have := HBB.out; omega
          have hOL := Lib.hid (fun k hk => (hown.lt k hk).1)
          have HC0d := Lib.hid (fun o => GB.alloc (show GB wb.drew g0 _ _ from HC0.out) o)
          have HC1d := Lib.hid (fun o => GB.alloc (show GB wb.drew g1 _ _ from HC1.out) o)
          have HC2d := Lib.hid (fun o => GB.alloc (show GB wb.drew g2 _ _ from HC2.out) o)
          have HBd := Lib.hid (fun o => (show Below g0 w wb.drew from below_drewN HB.out 1).alloc (by show g0 ≤ wb.heap.size; omega) o)
          have e2a := fun o => alloc_keep (show wb.drew.cell? _ = some _ from e21) o
          have e2b := fun o => alloc_keep e21 o
          have e2c := fun o => (show (wb.alloc o).drew.cell? _ = some _ from alloc_keep e21 o)
          go_region_law (refine step_append_lies _ rfl (.tmp 32) (.tmp 38) 23 rfl B 54 iL (.agg #[.int .i64 0, .int .i64 0, .float .f64 0, .bool false]) 4 32 Try.underlying23 hiL hzL0 hzL1 hzL2 rfl (by decide) v2 j ((ls.take j).flatMap lkC) (by simp [Act.eval]) (World.ownsRow.alloc hownd _) ⟨wb.heap.size, 0, none⟩ 1 1 (lkC ⟨xa, xb, xw, xu⟩) (by simp [Act.eval]) rfl (new_cells wb.drew (lkC ⟨xa, xb, xw, xu⟩) _) (oneL _) (by decide) (by unfold maxLen; omega) hkb (by simp; omega) (wb.heap.size + 1) (by simp) ?_; intro g cap w1 hown1 hgrow _ _; have hz := (HC2d.out _).grown hgrow hOL.out (by have := HGG.out; omega); have hz0 := hz.c1.1; have hz1 := hz.c1.2; have HO := Lib.hid hown1; have HW := Lib.hid ((Below.refl B _).grown hgrow (by simp; omega) hOL.out); have HW0 := Lib.hid ((HBd.out _).grown hgrow (by simp; omega) (fun k hk => by have := hOL.out k hk; omega)); have HZ := Lib.hid hz; have HZ0 := Lib.hid ((HC0d.out _).grown hgrow hOL.out (by omega)); have HZ1 := Lib.hid ((HC1d.out _).grown hgrow hOL.out (by have := HGG.out; omega)); clear hown1 hgrow hz)
          all_goals
            go_wp2_with (fail)
            clear hz0 hz1 hownd
            go_roundw
            case rel =>
              have e := HGG.out
              exact ⟨j + 1, _, by omega, by go_num, by rw [HTK.out, List.flatMap_append]; exact own_set (by simpa using HO.out) (by omega), Lib.hid (own_set (own_keep (World.ownsRow.alloc HONd.out _) HW.out HOB.out) (by omega)), Lib.hid (HZ0.out.set (by omega) _ _), Lib.hid (HZ1.out.set (by omega) _ _), Lib.hid (HZ.out.s1 _), Lib.hid (HW0.out.setCell (p := ⟨g2, 1, none⟩) (by show _ ≤ g2; omega) _), by have h9 := HW.out.size; simp [World.setCell] at h9 ⊢; omega⟩
            case measure => simp [intOf]; omega
        · obtain rfl : j = m := by omega
          rw [List.take_of_length_le (by rw [HL.out.1]; exact Nat.le_refl _)] at hown
          obtain ⟨A5, c5, rfl⟩ := own_form HON.out
          obtain ⟨A6, c6, rfl⟩ := own_form hown
          have HOL := Lib.hid hown
          obtain ⟨e10, f10⟩ := HC1.out.c0
          obtain ⟨e11, f11⟩ := HC1.out.c1
          clear hown
          go_wp2_with (fail)
          have e := HGG.out
          have hgB : g0 + 3 ≤ B := by have := HC20.out.lt; have := HBB.out; omega
          have e0 := HGE.out
          subst e0
          refine bodyPost_ret (ret_graph rfl _ _ _ rfl ((HC1.out.s0 (.slice A5 i c5)).s1 (.slice A6 j c6))) rfl ?_
          exact ⟨_, _, _, _, rfl, own_mono (own_set (own_set HON.out (by omega)) (by omega)) (by omega), own_mono (own_set (own_set HOL.out (by omega)) (by omega)) (by omega), (HB.out.setCell (p := ⟨g1, 0, none⟩) (by show _ ≤ g1; omega) _).setCell (p := ⟨g1, 1, none⟩) (by show _ ≤ g1; omega) _⟩

end Go.Proofs.Ytgmljlgoaifneaa
