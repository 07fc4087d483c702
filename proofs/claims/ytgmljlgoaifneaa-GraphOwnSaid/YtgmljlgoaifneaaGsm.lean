/- The walk of Same over two graphs that read alike: true. Conditions: both read as the same lists. -/
import Derived.Test.YtgmljlgoaifneaaGlx
import Derived.Laws.StructEq
import Derived.BigQuiet
namespace Go.Proofs.Ytgmljlgoaifneaa
open Go.RowKit Flt Go.Mem Go.Lib
set_option linter.unusedVariables false

attribute [local go_sem] run_store_float
set_option maxHeartbeats 6400000
set_option maxRecDepth 100000
theorem neq_nd (i : Int) (u m : Bool) (w : World) : (binOp .neq 52 (.agg #[.int .i64 i, .bool u, .bool m]) (.agg #[.int .i64 i, .bool u, .bool m])).run Try.prog w = .ok (.bool false) w := by
  have u0 := Try.underlying3
  have u1 := Try.underlying4
  have a0 := Try.isAgg3
  have a1 := Try.isAgg4
  have z0 := Try.sizeOf3
  have z1 := Try.sizeOf4
  have hS : Try.prog.underlying 52 = some (.struct (Try.prog.fieldsOf 52)) := by kernel_rfl
  have hp : Try.prog.stoodInHeld 52 = false := by kernel_rfl
  rw [run_neq_struct, show (10000 : Nat) = 9999 + 1 from rfl, run_equalIn_agg w 9999 52 _ _ hS hp]
  simp only [Program.fieldsOf, Try.underlying52]
  go_simp
theorem guard_nd (op : BinOp) (x y : Operand) (xs ys : Array Value) (w : World) : (eqGuard op 52 x y (.agg xs) (.agg ys)).run Try.prog w = .ok () w := run_eqGuard_agg w op 52 x y xs ys (by kernel_rfl)
attribute [local go_sem] neq_nd guard_nd
/-- what the links' round reads -/
def Cel10 (g0 g1 b off b' off' j : Nat) (u v : Value) (x : Lk) (B : Nat) (wb w' : World) : Prop :=
  w'.cell? ⟨g0, 1, none⟩ = some u ∧ w'.cell? ⟨g1, 1, none⟩ = some v ∧ w'.cell? ⟨b, off + j * 4, none⟩ = some (.int .i64 x.a) ∧ w'.cell? ⟨b, off + j * 4 + 1, none⟩ = some (.int .i64 x.b) ∧ w'.cell? ⟨b, off + j * 4 + 2, none⟩ = some (.float .f64 x.w) ∧ w'.cell? ⟨b, off + j * 4 + 3, none⟩ = some (.bool x.up) ∧
  w'.cell? ⟨b', off' + j * 4, none⟩ = some (.int .i64 x.a) ∧ w'.cell? ⟨b', off' + j * 4 + 1, none⟩ = some (.int .i64 x.b) ∧ w'.cell? ⟨b', off' + j * 4 + 2, none⟩ = some (.float .f64 x.w) ∧ w'.cell? ⟨b', off' + j * 4 + 3, none⟩ = some (.bool x.up) ∧ Below B wb w'
theorem cel_keep {g0 g1 b off b' off' j : Nat} {u v : Value} {x : Lk} {wb w' w2 : World} {B : Nat} (h : Cel10 g0 g1 b off b' off' j u v x B wb w') (hb : Below B w' w2) (h0 : g0 < B) (h1 : g1 < B) (h2 : b < B) (h3 : b' < B) : Cel10 g0 g1 b off b' off' j u v x B wb w2 := by
  obtain ⟨a0, a1, a2, a3, a4, a5, a6, a7, a8, a9, a10⟩ := h
  exact ⟨(hb.cell h0).trans a0, (hb.cell h1).trans a1, (hb.cell h2).trans a2, (hb.cell h2).trans a3, (hb.cell h2).trans a4, (hb.cell h2).trans a5, (hb.cell h3).trans a6, (hb.cell h3).trans a7, (hb.cell h3).trans a8, (hb.cell h3).trans a9, a10.trans hb⟩
theorem same_eq (A A2 A' A2' : Option Addr) (n c m c2 c' c2' : Nat) (ns : List Nd) (ls : List Lk) (w : World) (hg : GN w w.heap.size A n ns) (hl : GL w w.heap.size A2 m ls) (hg' : GN w w.heap.size A' n ns) (hl' : GL w w.heap.size A2' m ls) (hn : n ≤ 1152921504606846976) (hm : m ≤ 1152921504606846976) :
    Calls Try.prog 16 #[.agg #[.slice A n c, .slice A2 m c2], .agg #[.slice A' n c', .slice A2' m c2']] w fun e w' => e = .returned (.bool true) ∧ Below w.heap.size w w' := by
  have HN := Lib.hid hg
  have HL := Lib.hid hl
  have HN' := Lib.hid hg'
  have HL' := Lib.hid hl'
  clear hg hl hg' hl'
  have hX0 : ((w.alloc (.cells #[.slice A n c, .slice A2 m c2] 25)).alloc (.cells #[.slice A' n c', .slice A2' m c2'] 25)).heap[w.heap.size]? = some (.cells #[.slice A n c, .slice A2 m c2] 25 (0, 0)) := (Go.heap_alloc_old _ _ (by simp)).trans (Go.heap_alloc_new w _)
  have hX1 : ((w.alloc (.cells #[.slice A n c, .slice A2 m c2] 25)).alloc (.cells #[.slice A' n c', .slice A2' m c2'] 25)).heap[w.heap.size + 1]? = some (.cells #[.slice A' n c', .slice A2' m c2'] 25 (0, 0)) := by
    have := Go.heap_alloc_new (w.alloc (.cells #[.slice A n c, .slice A2 m c2] 25)) (.cells #[.slice A' n c', .slice A2' m c2'] 25)
    rw [show (w.alloc (.cells #[.slice A n c, .slice A2 m c2] 25)).heap.size = w.heap.size + 1 by simp] at this
    exact this
  have hB0 := ((Below.refl w.heap.size w).alloc (Nat.le_refl _) (.cells #[.slice A n c, .slice A2 m c2] 25)).alloc (by simp) (.cells #[.slice A' n c', .slice A2' m c2'] 25)
  go_enter Try.func16, Try.ntmps16
  go_wp2_with (fail)
  generalize (w.alloc (.cells #[.slice A n c, .slice A2 m c2] 25)).alloc (.cells #[.slice A' n c', .slice A2' m c2'] 25) = w1 at *
  generalize hg1 : w.heap.size + 1 = g1 at *
  obtain ⟨g0, hg0⟩ : ∃ g0, g0 = w.heap.size := ⟨_, rfl⟩
  rw [← hg0] at hX0 hB0 hg1 ⊢
  have HGE := Lib.hid hg0
  have HG1 := Lib.hid (show GB w1 g1 (.slice A' n c') (.slice A2' m c2') from hX1)
  have HG0 := Lib.hid (show GB w1 g0 (.slice A n c) (.slice A2 m c2) from hX0)
  have HGG := Lib.hid (show g1 = g0 + 1 by omega)
  have HB0 := Lib.hid hB0
  clear hX0 hX1 hB0 hg1 hg0
  go_loopw [5] (fun iv wr => ∃ i : Nat, i ≤ n ∧ iv = .int .i64 i ∧ Hid (GB wr g0 (.slice A n c) (.slice A2 m c2)) ∧ Hid (GB wr g1 (.slice A' n c') (.slice A2' m c2')) ∧ Hid (Below g0 w wr)) (fun iv _ => n - (intOf iv).toNat)
  case atStart => exact ⟨0, Nat.zero_le _, rfl, HG0, HG1, HB0⟩
  case round =>
    obtain ⟨i, hi, rfl, HC0, HC1, HB⟩ := hrel
    obtain ⟨wa, rfl⟩ : ∃ wa : World, wa = wr := ⟨_, rfl⟩
    obtain ⟨e00, _⟩ := HC0.out.c0
    obtain ⟨e01, _⟩ := HC0.out.c1
    obtain ⟨e10, _⟩ := HC1.out.c0
    obtain ⟨e11, _⟩ := HC1.out.c1
    by_cases hin : i < n
    · obtain ⟨b, off, rfl, hbl, hc⟩ := HN.out.at (by omega)
      obtain ⟨b', off', rfl, hbl', hc'⟩ := HN'.out.at (by omega)
      obtain ⟨c0, c1, c2x⟩ := hc i hin
      obtain ⟨k0, k1, k2⟩ := hc' i hin
      have hblg : b < g0 := by have := HGE.out; omega
      have hblg' : b' < g0 := by have := HGE.out; omega
      have d0 := (HB.out.cell (p := ⟨b, off + i * 3, none⟩) hblg).trans c0
      have d1 := (HB.out.cell (p := ⟨b, off + (i * 3 + 1), none⟩) hblg).trans c1
      have d2 := (HB.out.cell (p := ⟨b, off + (i * 3 + 2), none⟩) hblg).trans c2x
      have l0 := (HB.out.cell (p := ⟨b', off' + i * 3, none⟩) hblg').trans k0
      have l1 := (HB.out.cell (p := ⟨b', off' + (i * 3 + 1), none⟩) hblg').trans k1
      have l2 := (HB.out.cell (p := ⟨b', off' + (i * 3 + 2), none⟩) hblg').trans k2
      rw [← Nat.add_assoc] at d1 d2 l1 l2
      obtain ⟨x, hx⟩ : ∃ x, x = ndA ns i := ⟨_, rfl⟩
      rw [← hx] at d0 d1 d2 l0 l1 l2
      obtain ⟨xi, xu, xm⟩ := x
      clear hc c0 c1 c2x hc' k0 k1 k2 hx
      go_wp2_with (fail)
      go_big_quiet (fail)
      go_wp2_with (fail)
      go_roundw
      case rel => exact ⟨i + 1, by omega, by go_num, HC0, HC1, Lib.hid (below_drewN HB.out _)⟩
      case measure => simp [intOf]; omega
    · obtain rfl : i = n := by omega
      have HA0 := HC0
      have HA1 := HC1
      have HAB := HB
      clear HC0 HC1 HB
      go_wp2_with (fail)
      clear e00 e01 e10 e11
      go_loopw [6] (fun jv wr => ∃ j : Nat, j ≤ m ∧ jv = .int .i64 j ∧ Hid (GB wr g0 (.slice A i c) (.slice A2 m c2)) ∧ Hid (GB wr g1 (.slice A' i c') (.slice A2' m c2')) ∧ Hid (Below g0 w wr)) (fun jv _ => m - (intOf jv).toNat)
      case atStart => exact ⟨0, Nat.zero_le _, rfl, HA0, HA1, HAB⟩
      case round =>
        obtain ⟨j, hj, rfl, HC0, HC1, HB⟩ := hrel
        obtain ⟨wb, rfl⟩ : ∃ wb : World, wb = wr := ⟨_, rfl⟩
        obtain ⟨e00, _⟩ := HC0.out.c0
        obtain ⟨e01, _⟩ := HC0.out.c1
        obtain ⟨e10, _⟩ := HC1.out.c0
        obtain ⟨e11, _⟩ := HC1.out.c1
        by_cases hjm : j < m
        · obtain ⟨b, off, rfl, hbl, hc⟩ := HL.out.at (by omega)
          obtain ⟨b', off', rfl, hbl', hc'⟩ := HL'.out.at (by omega)
          obtain ⟨c0, c1, c2x, c3⟩ := hc j hjm
          obtain ⟨k0, k1, k2, k3⟩ := hc' j hjm
          have hblg : b < g0 := by have := HGE.out; omega
          have hblg' : b' < g0 := by have := HGE.out; omega
          have d0 := (HB.out.cell (p := ⟨b, off + j * 4, none⟩) hblg).trans c0
          have d1 := (HB.out.cell (p := ⟨b, off + (j * 4 + 1), none⟩) hblg).trans c1
          have d2 := (HB.out.cell (p := ⟨b, off + (j * 4 + 2), none⟩) hblg).trans c2x
          have d3 := (HB.out.cell (p := ⟨b, off + (j * 4 + 3), none⟩) hblg).trans c3
          have l0 := (HB.out.cell (p := ⟨b', off' + j * 4, none⟩) hblg').trans k0
          have l1 := (HB.out.cell (p := ⟨b', off' + (j * 4 + 1), none⟩) hblg').trans k1
          have l2 := (HB.out.cell (p := ⟨b', off' + (j * 4 + 2), none⟩) hblg').trans k2
          have l3 := (HB.out.cell (p := ⟨b', off' + (j * 4 + 3), none⟩) hblg').trans k3
          rw [← Nat.add_assoc] at d1 d2 d3 l1 l2 l3
          obtain ⟨x, hx⟩ : ∃ x, x = lkA ls j := ⟨_, rfl⟩
          rw [← hx] at d0 d1 d2 d3 l0 l1 l2 l3
          obtain ⟨xa, xb, xw, xu⟩ := x
          clear hc c0 c1 c2x c3 hc' k0 k1 k2 k3 hx
          have HS0 := Lib.hid (show Cel10 g0 g1 b off b' off' j (.slice (some ⟨b, off, none⟩) m c2) (.slice (some ⟨b', off', none⟩) m c2') ⟨xa, xb, xw, xu⟩ wb.heap.size wb wb from ⟨e01, e11, d0, d1, d2, d3, l0, l1, l2, l3, Below.refl _ _⟩)
          have HQ := Lib.hid (show g0 < wb.heap.size ∧ g1 < wb.heap.size ∧ b < wb.heap.size ∧ b' < wb.heap.size from ⟨HC0.out.lt, HC1.out.lt, by have := HC0.out.lt; omega, by have := HC0.out.lt; omega⟩)
          go_wp2_with (fail)
          go_region_held3 (fun w' => w'.cell? ⟨g0, 1, none⟩ = some (.slice (some ⟨b, off, none⟩) m c2) ∧ w'.cell? ⟨g1, 1, none⟩ = some (.slice (some ⟨b', off', none⟩) m c2') ∧ w'.cell? ⟨b, off + j * 4, none⟩ = some (.int .i64 xa) ∧ w'.cell? ⟨b, off + j * 4 + 1, none⟩ = some (.int .i64 xb) ∧ w'.cell? ⟨b, off + j * 4 + 2, none⟩ = some (.float .f64 xw) ∧ w'.cell? ⟨b, off + j * 4 + 3, none⟩ = some (.bool xu) ∧ w'.cell? ⟨b', off' + j * 4, none⟩ = some (.int .i64 xa) ∧ w'.cell? ⟨b', off' + j * 4 + 1, none⟩ = some (.int .i64 xb) ∧ w'.cell? ⟨b', off' + j * 4 + 2, none⟩ = some (.float .f64 xw) ∧ w'.cell? ⟨b', off' + j * 4 + 3, none⟩ = some (.bool xu) ∧ Below wb.heap.size wb w')
            (first | exact cel_keep HS0.out (by (repeat (first | exact Below.refl _ _ | refine Below.drew ?_ | refine Below.setCell ?_ (by simp) _ | refine Below.alloc ?_ (by first | simp | simp [World.setCell]) _))) HQ.out.1 HQ.out.2.1 HQ.out.2.2.1 HQ.out.2.2.2)
            (fail)
          all_goals
            go_wp2_with (first | (go_at_call 34; refine (same_any _ _ _).mono ?_; rintro e w' ⟨rfl, rfl⟩))
            go_roundw
            case rel => exact ⟨j + 1, by omega, by go_num, Lib.hid (HC0.out.below (B := wb.heap.size) (by (repeat (first | exact Below.refl _ _ | refine Below.drew ?_ | refine Below.setCell ?_ (by simp) _ | refine Below.alloc ?_ (by first | simp | simp [World.setCell]) _))) HC0.out.lt), Lib.hid (HC1.out.below (B := wb.heap.size) (by (repeat (first | exact Below.refl _ _ | refine Below.drew ?_ | refine Below.setCell ?_ (by simp) _ | refine Below.alloc ?_ (by first | simp | simp [World.setCell]) _))) HC1.out.lt), Lib.hid (HB.out.trans ((show Below wb.heap.size wb _ by (repeat (first | exact Below.refl _ _ | refine Below.drew ?_ | refine Below.setCell ?_ (by simp) _ | refine Below.alloc ?_ (by first | simp | simp [World.setCell]) _))).mono (Nat.le_of_lt HC0.out.lt)))⟩
            case measure => simp [intOf]; omega
        · obtain rfl : j = m := by omega
          go_wp2_with (fail)
          go_ret
          exact ⟨rfl, by have := HGE.out; subst this; exact HB.out⟩

end Go.Proofs.Ytgmljlgoaifneaa
