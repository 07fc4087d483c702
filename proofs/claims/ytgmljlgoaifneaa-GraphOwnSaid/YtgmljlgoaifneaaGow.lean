/- How links stand; the walk of graph.order. Conditions: none. -/
import Derived.Test.YtgmljlgoaifneaaGnw
import Derived.Deep.RegionHeld3
namespace Go.Proofs.Ytgmljlgoaifneaa
open Go.RowKit Flt Go.Mem Go.Lib
set_option linter.unusedVariables false

set_option maxHeartbeats 1600000
/-- how two links stand -/
def ordZ (x y : Lk) : Int := if cmpZ x.a y.a ≠ 0 then cmpZ x.a y.a else cmpZ x.b y.b
theorem ordZ_lt {x y : Lk} : ordZ x y < 0 ↔ lkLt x y = true := by
  unfold ordZ lkLt
  simp only [Bool.or_eq_true, Bool.and_eq_true, decide_eq_true_eq]
  by_cases h : cmpZ x.a y.a = 0
  · rw [if_neg (by simp [h]), cmpZ_lt]
    have := cmpZ_eq.1 h
    omega
  · rw [if_pos h, cmpZ_lt]
    have : x.a ≠ y.a := fun e => h (cmpZ_eq.2 e)
    omega
theorem ordZ_eq {x y : Lk} : ordZ x y = 0 ↔ x.a = y.a ∧ x.b = y.b := by
  unfold ordZ
  by_cases h : cmpZ x.a y.a = 0
  · rw [if_neg (by simp [h]), cmpZ_eq]
    have := cmpZ_eq.1 h
    omega
  · rw [if_pos h]
    have h2 : x.a ≠ y.a := fun e => h (cmpZ_eq.2 e)
    constructor
    · intro e; exact absurd e h
    · intro e; exact absurd e.1 h2
theorem or2_any (b : Nat) (p q : Int) (c : Nat) (w : World) (h0 : w.cell? ⟨b, 0, none⟩ = some (.int .i64 p)) (h1 : w.cell? ⟨b, 1, none⟩ = some (.int .i64 q)) :
    Calls Try.prog 47 #[.slice (some ⟨b, 0, none⟩) 2 c] w fun e w' => e = .returned (.int .i64 (if p ≠ 0 then p else q)) ∧ w' = w := by
  obtain ⟨r, hr⟩ : ∃ r, r = (if p ≠ 0 then p else q) := ⟨_, rfl⟩
  rw [← hr]
  have HR := Lib.hid hr
  clear hr
  go_enter Try.func47, Try.ntmps47
  go_wp2_with (fail)
  go_loop [8] (fun iv => iv = .int .i64 0 ∨ (iv = .int .i64 1 ∧ p = 0) ∨ (iv = .int .i64 2 ∧ p = 0 ∧ q = 0)) (fun iv => 2 - (intOf iv).toNat)
  case atStart => exact .inl rfl
  case round =>
    rcases hrel with rfl | ⟨rfl, rfl⟩ | ⟨rfl, rfl, rfl⟩
    · by_cases hp : p = 0
      · subst hp
        go_wp2_with (fail)
        go_round
        case rel => exact .inr (.inl ⟨by go_num, by first | rfl | trivial⟩)
        case measure => simp [intOf]
      · have hpb : (p == 0) = false := by rw [beq_eq_false_iff_ne]; exact hp
        go_wp2_with (fail)
        go_ret
        exact ⟨by (rw [HR.out, if_pos hp]) <;> rfl, rfl⟩
    · by_cases hq : q = 0
      · subst hq
        go_wp2_with (fail)
        go_round
        case rel => exact .inr (.inr ⟨by go_num, by first | rfl | trivial | simp⟩)
        case measure => simp [intOf]
      · have hqb : (q == 0) = false := by rw [beq_eq_false_iff_ne]; exact hq
        go_wp2_with (fail)
        go_ret
        exact ⟨by rw [HR.out]; rfl, rfl⟩
    · go_wp2_with (fail)
      go_ret
      exact ⟨by rw [HR.out]; rfl, rfl⟩
theorem keep_cellG {w w' : World} {b : Addr} {v : Value} (h : w.cell? b = some v) (hb : Below w.heap.size w w') : w'.cell? b = some v := (hb.cell (World.block_lt_of_cell? w _ h)).trans h
theorem heldB4 {w0 w : World} {b0 b1 b2 b3 : Addr} {v0 v1 v2 v3 : Value} (h : w.cell? b0 = some v0 ∧ w.cell? b1 = some v1 ∧ w.cell? b2 = some v2 ∧ w.cell? b3 = some v3 ∧ Below w0.heap.size w0 w) : Below w0.heap.size w0 w := h.2.2.2.2
theorem held_keep4 {w0 w w' : World} {b0 b1 b2 b3 : Addr} {v0 v1 v2 v3 : Value} (h : w.cell? b0 = some v0 ∧ w.cell? b1 = some v1 ∧ w.cell? b2 = some v2 ∧ w.cell? b3 = some v3 ∧ Below w0.heap.size w0 w) (hb : Below w.heap.size w w') :
    w'.cell? b0 = some v0 ∧ w'.cell? b1 = some v1 ∧ w'.cell? b2 = some v2 ∧ w'.cell? b3 = some v3 ∧ Below w0.heap.size w0 w' :=
  ⟨keep_cellG h.1 hb, keep_cellG h.2.1 hb, keep_cellG h.2.2.1 hb, keep_cellG h.2.2.2.1 hb, h.2.2.2.2.trans (hb.mono h.2.2.2.2.size)⟩
theorem compareB_any (x y : Int) (w : World) : Calls Try.prog 44 #[.int .i64 x, .int .i64 y] w fun e w' => e = .returned (.int .i64 (cmpZ x y)) ∧ Below w.heap.size w w' :=
  (compareI_any x y w).mono fun _ _ h => ⟨h.1, by rw [h.2]; exact Below.refl _ _⟩
set_option maxHeartbeats 1000000 in
theorem order_any (x y : Lk) (w : World) : Calls Try.prog 28 #[lkV x, lkV y] w fun e w' => e = .returned (.int .i64 (ordZ x y)) ∧ Below w.heap.size w w' := by
  unfold lkV
  obtain ⟨r, hr⟩ : ∃ r, r = ordZ x y := ⟨_, rfl⟩
  rw [← hr]
  have OR : ∀ (b c : Nat) (w' : World), w'.cell? ⟨b, 0, none⟩ = some (.int .i64 (cmpZ x.a y.a)) → w'.cell? ⟨b, 1, none⟩ = some (.int .i64 (cmpZ x.b y.b)) → Calls Try.prog 47 #[.slice (some ⟨b, 0, none⟩) 2 c] w' fun e w2 => e = .returned (.int .i64 r) ∧ Below w'.heap.size w' w2 := fun b c w' h0 h1 => by
    rw [hr]; exact (or2_any b _ _ c w' h0 h1).mono fun _ _ h => ⟨h.1, by rw [h.2]; exact Below.refl _ _⟩
  have HOR := Lib.hid OR
  have HR := Lib.hid hr
  clear hr OR
  generalize x.a = xa at *
  generalize x.b = xb at *
  generalize y.a = ya at *
  generalize y.b = yb at *
  generalize x.w = xw at *
  generalize y.w = yw at *
  generalize x.up = xu at *
  generalize y.up = yu at *
  go_enter Try.func28, Try.ntmps28
  go_wp2_with (fail)
  have hB0 := fun o o2 => (((Below.refl w.heap.size w).alloc (Nat.le_refl _) o).alloc (o := o2) (by simp)).drew
  go_region_held3 (fun w' => w'.cell? ⟨w.heap.size, 0, none⟩ = some (.int .i64 xa) ∧ w'.cell? ⟨w.heap.size, 1, none⟩ = some (.int .i64 xb) ∧ w'.cell? ⟨w.heap.size + 1, 0, none⟩ = some (.int .i64 ya) ∧ w'.cell? ⟨w.heap.size + 1, 1, none⟩ = some (.int .i64 yb) ∧ Below w.heap.size w w')
    (first | exact held_keep4 (by assumption) hb | exact held_keep4 (by assumption) ((Below.refl _ _).alloc (Nat.le_refl _) _) | go_keep)
    (first | (go_at_call 44; refine (compareB_any _ _ _).mono ?_; rintro e w' ⟨rfl, hb⟩) | (go_at_call 47; refine (HOR.out _ _ _ (by simp [go_sem]) (by simp [go_sem])).mono ?_; rintro e w' ⟨rfl, hb⟩))
  go_wp2
  go_ret
  exact ⟨rfl, heldB4 (by assumption)⟩

end Go.Proofs.Ytgmljlgoaifneaa
