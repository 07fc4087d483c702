/- That the layer answers at all: the walk of Play at three changes, of awake. Conditions: none. -/
import Derived.Test.YtgmljlgoaifneaaGal
import Derived.BigQuiet
namespace Go.Proofs.Ytgmljlgoaifneaa
open Go.RowKit Flt Go.Mem Go.Lib
set_option linter.unusedVariables false

attribute [local go_sem] run_store_float
set_option maxHeartbeats 3200000
set_option maxRecDepth 100000
theorem ret_graph3 {fn : Func} {u v a b : Value} (h : fn.results = #[.cell 2 25, .tmp 3, .tmp 4]) (tmps : Array Value) (w : World) (g : Nat) (hp : tmps.getD 2 undef = .pointer (some ⟨g, 0, none⟩)) (ha : tmps.getD 3 undef = a) (hb : tmps.getD 4 undef = b) (hg : GB w g u v) :
    (results fn tmps).run Try.prog w = .ok (.tuple #[.agg #[u, v], a, b]) w := by
  simp only [results, h]
  have hl := Go.run_loadVar_row (P := Try.prog) w g 25 25 _ (0, 0) _ hg Try.underlying25 rfl (by kernel_rfl)
  have hp' : tmps[2]?.getD undef = .pointer (some ⟨g, 0, none⟩) := by simpa using hp
  have ha' : tmps[3]?.getD undef = a := by simpa using ha
  have hb' : tmps[4]?.getD undef = b := by simpa using hb
  simp [Result.andThen, hp', ha', hb', asAddr, hl]
def nd1 : Nd := ⟨1, true, false⟩
def nd2 : Nd := ⟨2, true, false⟩
def lk1 : Lk := ⟨1, 2, 4609434218613702656, true⟩
/-- what Play has made behind i changes -/
def Stg (base G : Nat) (i : Nat) (w : World) : Prop :=
  (i = 0 ∧ GB w G (.slice none 0 0) (.slice none 0 0)) ∨
  (i = 1 ∧ ∃ A c, GB w G (.slice A 1 c) (.slice none 0 0) ∧ w.ownsRow base 52 3 (.slice A 1 c) 1 ([nd1].flatMap ndC)) ∨
  (i = 2 ∧ ∃ A c, GB w G (.slice A 2 c) (.slice none 0 0) ∧ w.ownsRow base 52 3 (.slice A 2 c) 2 ([nd1, nd2].flatMap ndC)) ∨
  (i = 3 ∧ ∃ A c A2 c2, GB w G (.slice A 2 c) (.slice A2 1 c2) ∧ w.ownsRow base 52 3 (.slice A 2 c) 2 ([nd1, nd2].flatMap ndC) ∧ w.ownsRow base 54 4 (.slice A2 1 c2) 1 ([lk1].flatMap lkC))
theorem rise1 : Rise [nd1] := fun i j hij hj => by simp at hj; omega
theorem rise2 : Rise [nd1, nd2] := fun i j hij hj => by
  simp at hj
  obtain rfl : i = 0 := by omega
  obtain rfl : j = 1 := by omega
  decide
theorem play3_any (g : Nat) (w : World) (hg : w.heap[g]? = some (.cells #[.int .i64 1, .int .i64 1, .int .i64 0, .float .f64 0, .int .i64 1, .int .i64 2, .int .i64 0, .float .f64 0, .int .i64 2, .int .i64 2, .int .i64 1, .float .f64 4609434218613702656] 38 (0, 0))) :
    Calls Try.prog 14 #[.slice (some ⟨g, 0, none⟩) 3 3] w fun e w' => ∃ A c A2 c2, e = .returned (.tuple #[.agg #[.slice A 2 c, .slice A2 1 c2], .int .i64 0, .int .i64 0]) ∧ GN w' w'.heap.size A 2 [nd1, nd2] ∧ GL w' w'.heap.size A2 1 [lk1] ∧ Below w.heap.size w w' := by
  have HG := Lib.hid hg
  have HGL := Lib.hid (lt_of_heap hg)
  clear hg
  go_enter Try.func14, Try.ntmps14
  go_wp2_with (fail)
  have hX1 := Go.heap_alloc_new w (.cells #[.slice none 0 0, .slice none 0 0] 25)
  have hX2 := Go.heap_alloc_new (w.alloc (.cells #[.slice none 0 0, .slice none 0 0] 25)) (.cells #[.slice none 0 0, .slice none 0 0] 25)
  have hB0 := ((Below.refl w.heap.size w).alloc (Nat.le_refl _) (.cells #[.slice none 0 0, .slice none 0 0] 25)).alloc (by simp) (.cells #[.slice none 0 0, .slice none 0 0] 25)
  rw [show (w.alloc (.cells #[.slice none 0 0, .slice none 0 0] 25)).heap.size = w.heap.size + 1 by simp] at hX2
  have hX1' : ((w.alloc (.cells #[.slice none 0 0, .slice none 0 0] 25)).alloc (.cells #[.slice none 0 0, .slice none 0 0] 25)).heap[w.heap.size]? = some (.cells #[.slice none 0 0, .slice none 0 0] 25 (0, 0)) := (Go.heap_alloc_old _ _ (by simp)).trans hX1
  have hz0 : w.heap.size + 2 ≤ ((w.alloc (.cells #[.slice none 0 0, .slice none 0 0] 25)).alloc (.cells #[.slice none 0 0, .slice none 0 0] 25)).heap.size := by simp
  generalize (w.alloc (.cells #[.slice none 0 0, .slice none 0 0] 25)).alloc (.cells #[.slice none 0 0, .slice none 0 0] 25) = w0 at *
  generalize hG : w.heap.size + 1 = G at *
  obtain ⟨base, hbase⟩ : ∃ b, b = w.heap.size + 2 := ⟨_, rfl⟩
  rw [← hbase] at hz0
  have hGb : G < base := by omega
  have hwb : w.heap.size ≤ base := by omega
  have hwG : w.heap.size ≤ G := by omega
  have hRG : w.heap.size ≠ G := by omega
  have hRb : w.heap.size < base := by omega
  have HS0 := Lib.hid (show Stg base G 0 w0 from .inl ⟨rfl, hX2⟩)
  have HR0 := Lib.hid (show GB w0 w.heap.size (.slice none 0 0) (.slice none 0 0) from hX1')
  have HB0 := Lib.hid hB0
  have HZ0 := Lib.hid hz0
  clear hX1 hX1' hX2 hB0 hz0 hG hbase
  go_loopw [16] (fun iv wr => ∃ i : Nat, i ≤ 3 ∧ iv = .int .i64 i ∧ Stg base G i wr ∧ Hid (Below w.heap.size w wr) ∧ base ≤ wr.heap.size ∧ Hid (GB wr w.heap.size (.slice none 0 0) (.slice none 0 0))) (fun iv _ => 3 - (intOf iv).toNat)
  case atStart => exact ⟨0, by omega, rfl, HS0.out, HB0, HZ0.out, HR0⟩
  case round =>
    obtain ⟨i, hi, rfl, hst, HB, hbs, HR⟩ := hrel
    obtain ⟨wa, rfl⟩ : ∃ wa : World, wa = wr := ⟨_, rfl⟩
    rcases hst with hst | hst | hst | hst
    · obtain ⟨rfl, hgb⟩ := hst
      obtain ⟨e0, f0⟩ := hgb.c0
      obtain ⟨e1, f1⟩ := hgb.c1
      have e0a := fun o => alloc_keep e0 o
      have e1a := fun o => alloc_keep e1 o
      have d0 : wa.cell? ⟨g, 0, none⟩ = some (.int .i64 1) := (HB.out.cell (p := ⟨g, 0, none⟩) HGL.out).trans ((Go.cell_of_row w g 0 _ _ _ HG.out).trans rfl)
      have d1 : wa.cell? ⟨g, 1, none⟩ = some (.int .i64 1) := (HB.out.cell (p := ⟨g, 1, none⟩) HGL.out).trans ((Go.cell_of_row w g 1 _ _ _ HG.out).trans rfl)
      have d2 : wa.cell? ⟨g, 2, none⟩ = some (.int .i64 0) := (HB.out.cell (p := ⟨g, 2, none⟩) HGL.out).trans ((Go.cell_of_row w g 2 _ _ _ HG.out).trans rfl)
      have d3 : wa.cell? ⟨g, 3, none⟩ = some (.float .f64 0) := (HB.out.cell (p := ⟨g, 3, none⟩) HGL.out).trans ((Go.cell_of_row w g 3 _ _ _ HG.out).trans rfl)
      have HGB := Lib.hid hgb
      clear hgb
      obtain ⟨o, ho⟩ : ∃ o, o = Obj.cells #[.int .i64 1, .int .i64 1, .int .i64 0, .float .f64 0] 38 := ⟨_, rfl⟩
      have HBo := Lib.hid (HB.out.alloc HB.out.size o)
      have HGBo := Lib.hid (show GB (wa.alloc o) G (.slice none 0 0) (.slice none 0 0) from (Go.heap_alloc_old wa o HGB.out.lt).trans HGB.out)
      have HRo := Lib.hid (show GB (wa.alloc o) w.heap.size _ _ from (Go.heap_alloc_old wa o HR.out.lt).trans HR.out)
      have HSZo := Lib.hid (show base ≤ (wa.alloc o).heap.size from Nat.le_trans hbs ((Below.refl _ _).alloc (Nat.le_refl _) _).size)
      rw [ho] at HBo HGBo HSZo HRo
      clear ho
      have AP := Lib.hid (applyAdd_any none none 0 0 0 0 base 1 [] _ (World.ownsRow_nil _ _ _ _) HSZo.out (fun i j _ h => absurd h (Nat.not_lt_zero _)) (by decide) (by decide) (by decide) (by decide))
      go_wp2_with (fail)
      refine AP.out.mono ?_
      rintro e w5 ⟨A', c', rfl, ho5, hb5⟩
      have HO5 := Lib.hid ho5
      have HG5 := Lib.hid (HGBo.out.below hb5 hGb)
      have HB5 := Lib.hid (HBo.out.trans (hb5.mono hwb))
      have HR5 := Lib.hid (HRo.out.below hb5 hRb)
      have HZ5 := Lib.hid (Nat.le_trans HSZo.out hb5.size)
      clear d0 d1 d2 d3 e0 e1 f0 f1 e0a e1a hb5 ho5
      obtain ⟨e0, f0⟩ := HG5.out.c0
      obtain ⟨e1, f1⟩ := HG5.out.c1
      obtain ⟨o2, ho2⟩ : ∃ o2, o2 = Obj.cells #[(.slice A' 1 c'), (.slice none 0 0)] 25 := ⟨_, rfl⟩
      have x0 := alloc_keep e0 o2
      have x1 := alloc_keep e1 o2
      have y0 : (w5.alloc o2).frozen? ⟨G, 0, none⟩ = false := by rw [World.frozen?_of_block (w := w5) (a := ⟨G, 0, none⟩) (Go.heap_alloc_old w5 o2 HG5.out.lt)]; exact f0
      have y1 : (w5.alloc o2).frozen? ⟨G, 1, none⟩ = false := by rw [World.frozen?_of_block (w := w5) (a := ⟨G, 1, none⟩) (Go.heap_alloc_old w5 o2 HG5.out.lt)]; exact f1
      have HG6 := Lib.hid ((show GB (w5.alloc o2) G _ _ from (Go.heap_alloc_old w5 o2 HG5.out.lt).trans HG5.out).s0 (.slice A' 1 c'))
      have HG7 := Lib.hid (HG6.out.s1 (.slice none 0 0))
      have HO7 := Lib.hid (own_set (g := G) (j := 1) (u := (.slice none 0 0)) (own_set (g := G) (j := 0) (u := (.slice A' 1 c')) (World.ownsRow.alloc HO5.out o2) hGb) hGb)
      have HB7 := Lib.hid (((HB5.out.alloc HB5.out.size o2).setCell (p := ⟨G, 0, none⟩) hwG (.slice A' 1 c')).setCell (p := ⟨G, 1, none⟩) hwG (.slice none 0 0))
      have HZ7 := Lib.hid (show base ≤ (((w5.alloc o2).setCell ⟨G, 0, none⟩ (.slice A' 1 c')).setCell ⟨G, 1, none⟩ (.slice none 0 0)).heap.size by have := HZ5.out; simp [World.setCell]; omega)
      have HR7 := Lib.hid (((show GB (w5.alloc o2) w.heap.size _ _ from (Go.heap_alloc_old w5 o2 HR5.out.lt).trans HR5.out).set hRG 0 (.slice A' 1 c')).set hRG 1 (.slice none 0 0))
      rw [ho2] at x0 x1 y0 y1 HG6 HG7 HO7 HB7 HZ7 HR7
      clear ho2 e0 e1 f0 f1
      go_wp2_with (fail)
      go_roundw
      case rel => exact ⟨1, by omega, by go_num, by exact .inr (.inl ⟨rfl, A', c', HG7.out, HO7.out⟩), HB7, HZ7.out, HR7⟩
      case measure => simp [intOf]
    · obtain ⟨rfl, A, c, hgb, hno⟩ := hst
      obtain ⟨e0, f0⟩ := hgb.c0
      obtain ⟨e1, f1⟩ := hgb.c1
      have e0a := fun o => alloc_keep e0 o
      have e1a := fun o => alloc_keep e1 o
      have d0 : wa.cell? ⟨g, 4, none⟩ = some (.int .i64 1) := (HB.out.cell (p := ⟨g, 4, none⟩) HGL.out).trans ((Go.cell_of_row w g 4 _ _ _ HG.out).trans rfl)
      have d1 : wa.cell? ⟨g, 5, none⟩ = some (.int .i64 2) := (HB.out.cell (p := ⟨g, 5, none⟩) HGL.out).trans ((Go.cell_of_row w g 5 _ _ _ HG.out).trans rfl)
      have d2 : wa.cell? ⟨g, 6, none⟩ = some (.int .i64 0) := (HB.out.cell (p := ⟨g, 6, none⟩) HGL.out).trans ((Go.cell_of_row w g 6 _ _ _ HG.out).trans rfl)
      have d3 : wa.cell? ⟨g, 7, none⟩ = some (.float .f64 0) := (HB.out.cell (p := ⟨g, 7, none⟩) HGL.out).trans ((Go.cell_of_row w g 7 _ _ _ HG.out).trans rfl)
      have HGB := Lib.hid hgb
      have HNO := Lib.hid hno
      clear hno
      clear hgb
      obtain ⟨o, ho⟩ : ∃ o, o = Obj.cells #[.int .i64 1, .int .i64 2, .int .i64 0, .float .f64 0] 38 := ⟨_, rfl⟩
      have HBo := Lib.hid (HB.out.alloc HB.out.size o)
      have HGBo := Lib.hid (show GB (wa.alloc o) G (.slice A 1 c) (.slice none 0 0) from (Go.heap_alloc_old wa o HGB.out.lt).trans HGB.out)
      have HNOo := Lib.hid (World.ownsRow.alloc HNO.out o)
      have HRo := Lib.hid (show GB (wa.alloc o) w.heap.size _ _ from (Go.heap_alloc_old wa o HR.out.lt).trans HR.out)
      have HSZo := Lib.hid (show base ≤ (wa.alloc o).heap.size from Nat.le_trans hbs ((Below.refl _ _).alloc (Nat.le_refl _) _).size)
      rw [ho] at HBo HGBo HSZo HRo HNOo
      clear ho
      have AP := Lib.hid (applyAdd_any A none 1 c 0 0 base 2 [nd1] _ HNOo.out HSZo.out rise1 (by decide) (by decide) (by decide) (by decide))
      go_wp2_with (fail)
      refine AP.out.mono ?_
      rintro e w5 ⟨A', c', rfl, ho5, hb5⟩
      have HO5 := Lib.hid ho5
      have HG5 := Lib.hid (HGBo.out.below hb5 hGb)
      have HB5 := Lib.hid (HBo.out.trans (hb5.mono hwb))
      have HR5 := Lib.hid (HRo.out.below hb5 hRb)
      have HZ5 := Lib.hid (Nat.le_trans HSZo.out hb5.size)
      clear d0 d1 d2 d3 e0 e1 f0 f1 e0a e1a hb5 ho5
      obtain ⟨e0, f0⟩ := HG5.out.c0
      obtain ⟨e1, f1⟩ := HG5.out.c1
      obtain ⟨o2, ho2⟩ : ∃ o2, o2 = Obj.cells #[(.slice A' 2 c'), (.slice none 0 0)] 25 := ⟨_, rfl⟩
      have x0 := alloc_keep e0 o2
      have x1 := alloc_keep e1 o2
      have y0 : (w5.alloc o2).frozen? ⟨G, 0, none⟩ = false := by rw [World.frozen?_of_block (w := w5) (a := ⟨G, 0, none⟩) (Go.heap_alloc_old w5 o2 HG5.out.lt)]; exact f0
      have y1 : (w5.alloc o2).frozen? ⟨G, 1, none⟩ = false := by rw [World.frozen?_of_block (w := w5) (a := ⟨G, 1, none⟩) (Go.heap_alloc_old w5 o2 HG5.out.lt)]; exact f1
      have HG6 := Lib.hid ((show GB (w5.alloc o2) G _ _ from (Go.heap_alloc_old w5 o2 HG5.out.lt).trans HG5.out).s0 (.slice A' 2 c'))
      have HG7 := Lib.hid (HG6.out.s1 (.slice none 0 0))
      have HO7 := Lib.hid (own_set (g := G) (j := 1) (u := (.slice none 0 0)) (own_set (g := G) (j := 0) (u := (.slice A' 2 c')) (World.ownsRow.alloc HO5.out o2) hGb) hGb)
      have HB7 := Lib.hid (((HB5.out.alloc HB5.out.size o2).setCell (p := ⟨G, 0, none⟩) hwG (.slice A' 2 c')).setCell (p := ⟨G, 1, none⟩) hwG (.slice none 0 0))
      have HZ7 := Lib.hid (show base ≤ (((w5.alloc o2).setCell ⟨G, 0, none⟩ (.slice A' 2 c')).setCell ⟨G, 1, none⟩ (.slice none 0 0)).heap.size by have := HZ5.out; simp [World.setCell]; omega)
      have HR7 := Lib.hid (((show GB (w5.alloc o2) w.heap.size _ _ from (Go.heap_alloc_old w5 o2 HR5.out.lt).trans HR5.out).set hRG 0 (.slice A' 2 c')).set hRG 1 (.slice none 0 0))
      rw [ho2] at x0 x1 y0 y1 HG6 HG7 HO7 HB7 HZ7 HR7
      clear ho2 e0 e1 f0 f1
      go_wp2_with (fail)
      go_roundw
      case rel => exact ⟨2, by omega, by go_num, by exact .inr (.inr (.inl ⟨rfl, A', c', HG7.out, HO7.out⟩)), HB7, HZ7.out, HR7⟩
      case measure => simp [intOf]
    · obtain ⟨rfl, A, c, hgb, hno⟩ := hst
      obtain ⟨e0, f0⟩ := hgb.c0
      obtain ⟨e1, f1⟩ := hgb.c1
      have e0a := fun o => alloc_keep e0 o
      have e1a := fun o => alloc_keep e1 o
      have d0 : wa.cell? ⟨g, 8, none⟩ = some (.int .i64 2) := (HB.out.cell (p := ⟨g, 8, none⟩) HGL.out).trans ((Go.cell_of_row w g 8 _ _ _ HG.out).trans rfl)
      have d1 : wa.cell? ⟨g, 9, none⟩ = some (.int .i64 2) := (HB.out.cell (p := ⟨g, 9, none⟩) HGL.out).trans ((Go.cell_of_row w g 9 _ _ _ HG.out).trans rfl)
      have d2 : wa.cell? ⟨g, 10, none⟩ = some (.int .i64 1) := (HB.out.cell (p := ⟨g, 10, none⟩) HGL.out).trans ((Go.cell_of_row w g 10 _ _ _ HG.out).trans rfl)
      have d3 : wa.cell? ⟨g, 11, none⟩ = some (.float .f64 4609434218613702656) := (HB.out.cell (p := ⟨g, 11, none⟩) HGL.out).trans ((Go.cell_of_row w g 11 _ _ _ HG.out).trans rfl)
      have HGB := Lib.hid hgb
      have HNO := Lib.hid hno
      clear hno
      clear hgb
      obtain ⟨o, ho⟩ : ∃ o, o = Obj.cells #[.int .i64 2, .int .i64 2, .int .i64 1, .float .f64 4609434218613702656] 38 := ⟨_, rfl⟩
      have HBo := Lib.hid (HB.out.alloc HB.out.size o)
      have HGBo := Lib.hid (show GB (wa.alloc o) G (.slice A 2 c) (.slice none 0 0) from (Go.heap_alloc_old wa o HGB.out.lt).trans HGB.out)
      have HNOo := Lib.hid (World.ownsRow.alloc HNO.out o)
      have HRo := Lib.hid (show GB (wa.alloc o) w.heap.size _ _ from (Go.heap_alloc_old wa o HR.out.lt).trans HR.out)
      have HSZo := Lib.hid (show base ≤ (wa.alloc o).heap.size from Nat.le_trans hbs ((Below.refl _ _).alloc (Nat.le_refl _) _).size)
      rw [ho] at HBo HGBo HSZo HRo HNOo
      clear ho
      have AP := Lib.hid (applyLink_any A 2 c base 2 1 1 2 4609434218613702656 [nd1, nd2] _ HNOo.out HSZo.out rise2 (by decide) (by decide) (by decide) (by kernel_rfl) (by decide) rfl rfl (by decide))
      go_wp2_with (fail)
      refine AP.out.mono ?_
      rintro e w5 ⟨A', c', rfl, hn5, ho5, hb5⟩
      have HN5 := Lib.hid hn5
      have HO5 := Lib.hid ho5
      have HG5 := Lib.hid (HGBo.out.below hb5 hGb)
      have HB5 := Lib.hid (HBo.out.trans (hb5.mono hwb))
      have HR5 := Lib.hid (HRo.out.below hb5 hRb)
      have HZ5 := Lib.hid (Nat.le_trans HSZo.out hb5.size)
      clear d0 d1 d2 d3 e0 e1 f0 f1 e0a e1a hb5 ho5 hn5
      obtain ⟨e0, f0⟩ := HG5.out.c0
      obtain ⟨e1, f1⟩ := HG5.out.c1
      obtain ⟨o2, ho2⟩ : ∃ o2, o2 = Obj.cells #[(.slice A 2 c), (.slice A' 1 c')] 25 := ⟨_, rfl⟩
      have x0 := alloc_keep e0 o2
      have x1 := alloc_keep e1 o2
      have y0 : (w5.alloc o2).frozen? ⟨G, 0, none⟩ = false := by rw [World.frozen?_of_block (w := w5) (a := ⟨G, 0, none⟩) (Go.heap_alloc_old w5 o2 HG5.out.lt)]; exact f0
      have y1 : (w5.alloc o2).frozen? ⟨G, 1, none⟩ = false := by rw [World.frozen?_of_block (w := w5) (a := ⟨G, 1, none⟩) (Go.heap_alloc_old w5 o2 HG5.out.lt)]; exact f1
      have HG6 := Lib.hid ((show GB (w5.alloc o2) G _ _ from (Go.heap_alloc_old w5 o2 HG5.out.lt).trans HG5.out).s0 (.slice A 2 c))
      have HG7 := Lib.hid (HG6.out.s1 (.slice A' 1 c'))
      have HN7 := Lib.hid (own_set (g := G) (j := 1) (u := (.slice A' 1 c')) (own_set (g := G) (j := 0) (u := (.slice A 2 c)) (World.ownsRow.alloc HN5.out o2) hGb) hGb)
      have HO7 := Lib.hid (own_set (g := G) (j := 1) (u := (.slice A' 1 c')) (own_set (g := G) (j := 0) (u := (.slice A 2 c)) (World.ownsRow.alloc HO5.out o2) hGb) hGb)
      have HB7 := Lib.hid (((HB5.out.alloc HB5.out.size o2).setCell (p := ⟨G, 0, none⟩) hwG (.slice A 2 c)).setCell (p := ⟨G, 1, none⟩) hwG (.slice A' 1 c'))
      have HZ7 := Lib.hid (show base ≤ (((w5.alloc o2).setCell ⟨G, 0, none⟩ (.slice A 2 c)).setCell ⟨G, 1, none⟩ (.slice A' 1 c')).heap.size by have := HZ5.out; simp [World.setCell]; omega)
      have HR7 := Lib.hid (((show GB (w5.alloc o2) w.heap.size _ _ from (Go.heap_alloc_old w5 o2 HR5.out.lt).trans HR5.out).set hRG 0 (.slice A 2 c)).set hRG 1 (.slice A' 1 c'))
      rw [ho2] at x0 x1 y0 y1 HG6 HG7 HO7 HB7 HZ7 HR7 HN7
      clear ho2 e0 e1 f0 f1
      go_wp2_with (fail)
      go_roundw
      case rel => exact ⟨3, by omega, by go_num, by exact .inr (.inr (.inr ⟨rfl, A, c, A', c', HG7.out, HN7.out, HO7.out⟩)), HB7, HZ7.out, HR7⟩
      case measure => simp [intOf]
    · obtain ⟨rfl, A, c, A2, c2, hgb, hn, hl⟩ := hst
      obtain ⟨e0, f0⟩ := hgb.c0
      obtain ⟨e1, f1⟩ := hgb.c1
      have HN := Lib.hid hn
      have HL := Lib.hid hl
      clear hgb hn hl
      obtain ⟨r0, s0⟩ := HR.out.c0
      obtain ⟨r1, s1⟩ := HR.out.c1
      go_wp2_with (fail)
      refine bodyPost_ret (ret_graph3 rfl _ _ _ rfl rfl rfl ((HR.out.s0 (.slice A 2 c)).s1 (.slice A2 1 c2))) rfl ?_
      have hN7 := own_set (g := w.heap.size) (j := 1) (u := .slice A2 1 c2) (own_set (g := w.heap.size) (j := 0) (u := .slice A 2 c) HN.out hRb) hRb
      have hL7 := own_set (g := w.heap.size) (j := 1) (u := .slice A2 1 c2) (own_set (g := w.heap.size) (j := 0) (u := .slice A 2 c) HL.out hRb) hRb
      exact ⟨A, c, A2, c2, rfl, GN.of_own hN7, GL.of_own hL7, (HB.out.setCell (p := ⟨w.heap.size, 0, none⟩) (Nat.le_refl _) _).setCell (p := ⟨w.heap.size, 1, none⟩) (Nat.le_refl _) _⟩
theorem chk_awake : chkG [nd1, nd2] [lk1] = 0 := by decide +kernel
theorem awake_any (w : World) : Calls Try.prog 13 #[] w fun e w' => e = .returned (.bool true) ∧ Below w.heap.size w w' := by
  go_enter Try.func13, Try.ntmps13
  go_wp2_with (fail)
  refine (play3_any w.heap.size _ (Go.heap_alloc_new w _)).mono ?_
  rintro e w1 ⟨A, c, A2, c2, rfl, hn, hl, hb⟩
  have HB := Lib.hid (((Below.refl w.heap.size w).alloc (Nat.le_refl _) _).trans (hb.mono (by simp)))
  have CK := Lib.hid (fun o => by
    have q := check_any A A2 2 c 1 c2 [nd1, nd2] [lk1] (w1.alloc o) ((hn.below ((Below.refl _ _).alloc (Nat.le_refl _) o)).more (by simp)) ((hl.below ((Below.refl _ _).alloc (Nat.le_refl _) o)).more (by simp)) (fun i hi => by
      obtain rfl : i = 0 := by omega
      decide) (by decide) (by decide)
    rw [chk_awake] at q; exact q)
  have HBA := Lib.hid (fun o => HB.out.alloc HB.out.size o)
  clear hn hl hb
  go_wp2_with (fail)
  refine (CK.out _).mono ?_
  rintro e w2 ⟨rfl, hb2⟩
  go_wp2
  go_ret
  exact ⟨rfl, (HBA.out _).trans (hb2.mono (HBA.out _).size)⟩

end Go.Proofs.Ytgmljlgoaifneaa
