/- The walk of a change that adds the first link. Conditions: as each theorem's hypotheses say. -/
import Derived.Test.YtgmljlgoaifneaaGad
import Derived.Test.YtgmljlgoaifneaaGwl
namespace Go.Proofs.Ytgmljlgoaifneaa
open Go.RowKit Flt Go.Mem Go.Lib
set_option linter.unusedVariables false

attribute [local go_sem] run_store_float
set_option maxHeartbeats 1600000
set_option maxRecDepth 100000
theorem bsL_nil (a b : Int) (x : Nat) (u : Bool) (w : World) : Calls Try.prog 102 #[.slice none 0 0, .agg #[.int .i64 a, .int .i64 b, .float .f64 x, .bool u], .func (.func 28) #[] #[]] w fun e w' => e = .returned (.tuple #[.int .i64 0, .bool false]) ∧ Below w.heap.size w w' := by
  go_enter Try.func102, Try.ntmps102
  go_wp2_with (fail)
  go_loopw [9, 10] (fun iv jv wr => iv = .int .i64 0 ∧ jv = .int .i64 0 ∧ Below w.heap.size w wr) (fun _ _ _ => 0)
  case atStart => exact ⟨rfl, rfl, (Below.refl _ _).alloc (Nat.le_refl _) _⟩
  case round =>
    obtain ⟨rfl, rfl, hbt⟩ := hrel
    go_wp2_with (fail)
    go_big_quiet (fail)
    go_wp2_with (fail)
    go_ret2
    exact ⟨rfl, below_drewN hbt _⟩
theorem linkE_any (A : Option Addr) (n c : Nat) (a b : Int) (w : World) : Calls Try.prog 88 #[.agg #[.slice A n c, .slice none 0 0], .int .i64 a, .int .i64 b] w fun e w' => e = .returned (.tuple #[.int .i64 0, .bool false]) ∧ Below w.heap.size w w' := by
  go_enter Try.func88, Try.ntmps88
  go_wp2_with (go_at_call 102; refine (bsL_nil _ _ _ _ _).mono ?_; rintro e w' ⟨rfl, hb⟩)
  all_goals
    go_ret2
    exact ⟨rfl, ((Below.refl _ _).alloc (Nat.le_refl _) _).trans (hb.mono (by simp))⟩
set_option maxHeartbeats 3200000 in
theorem linkM_any (A : Option Addr) (n c base g : Nat) (k a b mn mx : Int) (x : Nat) (ns : List Nd) (w : World) (hcb : CB w g (.slice A n c) (.slice none 0 0) k a b x) (hown : w.ownsRow base 52 3 (.slice A n c) n (ns.flatMap ndC)) (hb : base ≤ w.heap.size) (hbg : base ≤ g)
    (hr : Rise ns) (ha : hasN ns a = true) (hbb : hasN ns b = true) (hab : ¬ a = b) (hx : withinI x 4697254411347427328 = 0) (hx64 : x < 18446744073709551616) (hmn : (if b < a then b else a) = mn) (hmx : (if a < b then b else a) = mx) (hn : n ≤ 256) :
    Calls Try.prog 67 #[.pointer (some ⟨g, 0, none⟩)] w fun e w' => ∃ A' c', e = .returned (.int .i64 0) ∧ CB w' g (.slice A n c) (.slice A' 1 c') k a b x ∧ w'.ownsRow base 52 3 (.slice A n c) n (ns.flatMap ndC) ∧ w'.ownsRow base 54 4 (.slice A' 1 c') 1 (lkC ⟨mn, mx, x, true⟩) ∧ Below base w w' ∧ (∀ q, q < w.heap.size → q ≠ g → w'.heap[q]? = w.heap[q]?) := by
  have HCB := Lib.hid hcb
  have HO := Lib.hid hown
  have HB0 := Lib.hid hb
  have NDA := Lib.hid (fun w' (h : Below w.heap.size w w') => by
    have q := node_any A none n c 0 0 ns a w' (((GN.of_own hown).below h).more h.size) hr (by omega)
    rw [ha] at q; exact q)
  have NDB := Lib.hid (fun w' (h : Below w.heap.size w w') => by
    have q := node_any A none n c 0 0 ns b w' (((GN.of_own hown).below h).more h.size) hr (by omega)
    rw [hbb] at q; exact q)
  have WEI := Lib.hid (fun W => by have q := weight_any x hx64 W; rw [hx] at q; exact q)
  obtain ⟨p0, f0⟩ := hcb.c0
  obtain ⟨p1, _⟩ := hcb.c1
  obtain ⟨p3, _⟩ := hcb.c3
  obtain ⟨p4, _⟩ := hcb.c4
  obtain ⟨p5, _⟩ := hcb.c5
  have habb : (a == b) = false := by rw [beq_eq_false_iff_ne]; exact hab
  have hB := Below.refl w.heap.size w
  have hBd := hB.drew
  clear hcb hown hr ha hbb hx hx64 hab
  generalize cntN ns a = na at *
  generalize cntN ns b = nb at *
  go_enter Try.func67, Try.ntmps67
  go_wp2_with (fail)
  go_region_held3 (fun w' => w'.cell? ⟨g, 0, none⟩ = some (.slice A n c) ∧ w'.cell? ⟨g, 1, none⟩ = some (.slice none 0 0) ∧ w'.cell? ⟨g, 3, none⟩ = some (.int .i64 a) ∧ w'.cell? ⟨g, 4, none⟩ = some (.int .i64 b) ∧ Below w.heap.size w w')
    (first | exact held_keep4 (by assumption) hb | go_keep)
    (first | (go_at_call 27; refine (NDA.out _ (heldB4 (by assumption))).mono ?_; rintro z w' ⟨rfl, hb⟩))
  have h4 := heldB4 (by assumption)
  have q0 := keep_cellG p0 h4
  have q1 := keep_cellG p1 h4
  have q3 := keep_cellG p3 h4
  have q4 := keep_cellG p4 h4
  clear hB hBd
  have hBd := h4.drew
  go_wp2_with (fail)
  go_region_held3 (fun w' => w'.cell? ⟨g, 0, none⟩ = some (.slice A n c) ∧ w'.cell? ⟨g, 1, none⟩ = some (.slice none 0 0) ∧ w'.cell? ⟨g, 3, none⟩ = some (.int .i64 a) ∧ w'.cell? ⟨g, 4, none⟩ = some (.int .i64 b) ∧ Below w.heap.size w w')
    (first | exact held_keep4 (by assumption) hb | go_keep)
    (first | (go_at_call 27; refine (NDB.out _ (heldB4 (by assumption))).mono ?_; rintro z w' ⟨rfl, hb⟩))
  have h5 := heldB4 (by assumption)
  have r0 := keep_cellG p0 h5
  have r1 := keep_cellG p1 h5
  have r3 := keep_cellG p3 h5
  have r4 := keep_cellG p4 h5
  clear q0 q1 q3 q4 h4 hBd
  have hBd := h5.drew
  go_wp2_with (fail)
  go_region_held3 (fun w' => w'.cell? ⟨g, 0, none⟩ = some (.slice A n c) ∧ w'.cell? ⟨g, 1, none⟩ = some (.slice none 0 0) ∧ w'.cell? ⟨g, 3, none⟩ = some (.int .i64 a) ∧ w'.cell? ⟨g, 4, none⟩ = some (.int .i64 b) ∧ Below w.heap.size w w')
    (first | exact held_keep4 (by assumption) hb | go_keep)
    (first | (go_at_call 88; refine ((linkE_any A n c a b _)).mono ?_; rintro z w' ⟨rfl, hb⟩))
  have h6 := heldB4 (by assumption)
  have t0 := keep_cellG p0 h6
  have t1 := keep_cellG p1 h6
  have t3 := keep_cellG p3 h6
  have t4 := keep_cellG p4 h6
  have t5 := keep_cellG p5 h6
  clear r0 r1 r3 r4 h5 hBd
  go_wp2_with (fail)
  go_big_quiet (fail)
  have HB6 := Lib.hid h6
  clear h6
  go_wp2_with (go_at_call 29; refine (WEI.out _).mono ?_; rintro e w' ⟨rfl, hww⟩; subst hww)
  obtain ⟨w6, hw6⟩ : ∃ x, x = w'.drewN nq := ⟨_, rfl⟩
  rw [← hw6]
  have HO6 := Lib.hid (show w6.drew.ownsRow base 52 3 (.slice A n c) n (ns.flatMap ndC) by rw [hw6]; exact own_drewN (own_below HO.out HB6.out) (nq + 1))
  have HC6 := Lib.hid (show CB w6.drew g (.slice A n c) (.slice none 0 0) k a b x by rw [hw6]; exact (HCB.out.below HB6.out HCB.out.lt).drewN (nq + 1))
  have HW6 := Lib.hid (show Below w.heap.size w w6.drew by rw [hw6]; exact below_drewN HB6.out (nq + 1))
  have s0 : w6.cell? ⟨g, 0, none⟩ = some (.slice A n c) := by rw [hw6]; exact t0
  have s1 : w6.cell? ⟨g, 1, none⟩ = some (.slice none 0 0) := by rw [hw6]; exact t1
  have s3 : w6.cell? ⟨g, 3, none⟩ = some (.int .i64 a) := by rw [hw6]; exact t3
  have s4 : w6.cell? ⟨g, 4, none⟩ = some (.int .i64 b) := by rw [hw6]; exact t4
  have s5 : w6.cell? ⟨g, 5, none⟩ = some (.float .f64 x) := by rw [hw6]; exact t5
  have hsz : w6.drew.heap.size = w6.heap.size := rfl
  have HLE := Lib.hid (Nat.le_trans HB0.out HW6.out.size)
  clear t0 t1 t3 t4 t5 hw6 p0 f0 p1 p3 p4 p5
  have x1 := fun o => alloc_keep s1 o
  have x3 := fun o => alloc_keep s3 o
  have x4 := fun o => alloc_keep s4 o
  have x5 := fun o => alloc_keep s5 o
  have hB6 := HW6.out
  refine wp_region_K (S := (fun w' => w'.cell? ⟨g, 1, none⟩ = some (.slice none 0 0) ∧ w'.cell? ⟨g, 3, none⟩ = some (.int .i64 a) ∧ w'.cell? ⟨g, 4, none⟩ = some (.int .i64 b) ∧ w'.cell? ⟨g, 5, none⟩ = some (.float .f64 x))) (by kernel_rfl) 40 ?_
  have hS : (fun w' => w'.cell? ⟨g, 1, none⟩ = some (.slice none 0 0) ∧ w'.cell? ⟨g, 3, none⟩ = some (.int .i64 a) ∧ w'.cell? ⟨g, 4, none⟩ = some (.int .i64 b) ∧ w'.cell? ⟨g, 5, none⟩ = some (.float .f64 x)) w6.drew := ⟨s1, s3, s4, s5⟩
  refine wpAnyK_take (i := 0) (v := ?_) rfl (by kernel_rfl) (by kernel_rfl) (by kernel_rfl) (by decide) (by kernel_rfl) (fun _ _ _ h => h) (Or.inl ⟨by rfl, ?_⟩) hS ?_
  rotate_left
  · intro w hSw
    (try dsimp only at hSw)
    go_simp
    with_reducible rfl
  (try simp only [Act.put, List.setIfInBounds_toArray, List.set_cons_zero, List.set_cons_succ])
  refine wpAnyK_take (i := 1) (v := ?_) rfl (by kernel_rfl) (by kernel_rfl) (by kernel_rfl) (by decide) (by kernel_rfl) (fun _ _ _ h => h) (Or.inl ⟨by rfl, ?_⟩) hS ?_
  rotate_left
  · intro w hSw
    (try dsimp only at hSw)
    go_simp
    with_reducible rfl
  (try simp only [Act.put, List.setIfInBounds_toArray, List.set_cons_zero, List.set_cons_succ])
  refine wpAnyK_take (i := 2) (v := ?_) rfl (by kernel_rfl) (by kernel_rfl) (by kernel_rfl) (by decide) (by kernel_rfl) (fun _ _ _ h => h) (Or.inl ⟨by rfl, ?_⟩) hS ?_
  rotate_left
  · intro w hSw
    (try dsimp only at hSw)
    go_simp
    with_reducible rfl
  (try simp only [Act.put, List.setIfInBounds_toArray, List.set_cons_zero, List.set_cons_succ])
  refine wpAnyK_take (i := 3) (v := ?_) rfl (by kernel_rfl) (by kernel_rfl) (by kernel_rfl) (by decide) (by kernel_rfl) (fun _ _ _ h => h) (Or.inl ⟨by rfl, ?_⟩) hS ?_
  rotate_left
  · intro w hSw
    (try dsimp only at hSw)
    go_simp
    with_reducible rfl
  (try simp only [Act.put, List.setIfInBounds_toArray, List.set_cons_zero, List.set_cons_succ])
  refine wpAnyK_take (i := 4) (v := ?_) rfl (by kernel_rfl) (by kernel_rfl) (by kernel_rfl) (by decide) (by kernel_rfl) (fun _ _ _ h => h) (Or.inl ⟨by rfl, ?_⟩) hS ?_
  rotate_left
  · intro w hSw
    (try dsimp only at hSw)
    go_simp
    with_reducible rfl
  (try simp only [Act.put, List.setIfInBounds_toArray, List.set_cons_zero, List.set_cons_succ])
  refine wpAnyK_take (i := 5) (v := ?_) rfl (by kernel_rfl) (by kernel_rfl) (by kernel_rfl) (by decide) (by kernel_rfl) (fun _ _ _ h => h) (Or.inl ⟨by rfl, ?_⟩) hS ?_
  rotate_left
  · intro w hSw
    (try dsimp only at hSw)
    go_simp
    with_reducible rfl
  (try simp only [Act.put, List.setIfInBounds_toArray, List.set_cons_zero, List.set_cons_succ])
  refine wpAnyK_take (i := 6) (v := ?_) rfl (by kernel_rfl) (by kernel_rfl) (by kernel_rfl) (by decide) (by kernel_rfl) (fun _ _ _ h => h) (Or.inl ⟨by rfl, ?_⟩) hS ?_
  rotate_left
  · intro w hSw
    (try dsimp only at hSw)
    go_simp
    with_reducible rfl
  (try simp only [Act.put, List.setIfInBounds_toArray, List.set_cons_zero, List.set_cons_succ])
  refine wpAnyK_take (i := 7) (v := ?_) rfl (by kernel_rfl) (by kernel_rfl) (by kernel_rfl) (by decide) (by kernel_rfl) (fun _ _ _ h => h) (Or.inl ⟨by rfl, ?_⟩) hS ?_
  rotate_left
  · intro w hSw
    (try dsimp only at hSw)
    go_simp
    with_reducible rfl
  (try simp only [Act.put, List.setIfInBounds_toArray, List.set_cons_zero, List.set_cons_succ])
  refine wpAnyK_take (i := 8) (v := ?_) rfl (by kernel_rfl) (by kernel_rfl) (by kernel_rfl) (by decide) (by kernel_rfl) (fun _ _ _ h => h) (Or.inl ⟨by rfl, ?_⟩) hS ?_
  rotate_left
  · intro w hSw
    (try dsimp only at hSw)
    go_simp
    with_reducible rfl
  (try simp only [Act.put, List.setIfInBounds_toArray, List.set_cons_zero, List.set_cons_succ])
  refine wpAnyK_take (i := 9) (v := ?_) rfl (by kernel_rfl) (by kernel_rfl) (by kernel_rfl) (by decide) (by kernel_rfl) (fun _ _ _ h => h) (Or.inl ⟨by rfl, ?_⟩) hS ?_
  rotate_left
  · intro w hSw
    (try dsimp only at hSw)
    go_simp
    with_reducible rfl
  (try simp only [Act.put, List.setIfInBounds_toArray, List.set_cons_zero, List.set_cons_succ])
  refine wpAnyK_take (i := 10) (v := ?_) rfl (by kernel_rfl) (by kernel_rfl) (by kernel_rfl) (by decide) (by kernel_rfl) (fun _ _ _ h => h) (Or.inl ⟨by rfl, ?_⟩) hS ?_
  rotate_left
  · intro w hSw
    (try dsimp only at hSw)
    go_simp
    with_reducible rfl
  (try simp only [Act.put, List.setIfInBounds_toArray, List.set_cons_zero, List.set_cons_succ])
  refine wpAnyK_take (i := 11) (v := ?_) rfl (by kernel_rfl) (by kernel_rfl) (by kernel_rfl) (by decide) (by kernel_rfl) (fun _ _ _ h => h) (Or.inl ⟨by rfl, ?_⟩) hS ?_
  rotate_left
  · intro w hSw
    (try dsimp only at hSw)
    go_simp
    with_reducible rfl
  (try simp only [Act.put, List.setIfInBounds_toArray, List.set_cons_zero, List.set_cons_succ])
  refine wpAnyK_take (i := 12) (v := ?_) rfl (by kernel_rfl) (by kernel_rfl) (by kernel_rfl) (by decide) (by kernel_rfl) (fun _ _ _ h => h) (Or.inl ⟨by rfl, ?_⟩) hS ?_
  rotate_left
  · intro w hSw
    (try dsimp only at hSw)
    go_simp
    with_reducible rfl
  (try simp only [Act.put, List.setIfInBounds_toArray, List.set_cons_zero, List.set_cons_succ])
  refine wpAnyK_take (i := 13) (v := ?_) rfl (by kernel_rfl) (by kernel_rfl) (by kernel_rfl) (by decide) (by kernel_rfl) (fun _ _ _ h => h) (Or.inl ⟨by rfl, ?_⟩) hS ?_
  rotate_left
  · intro w hSw
    (try dsimp only at hSw)
    go_simp
    with_reducible rfl
  (try simp only [Act.put, List.setIfInBounds_toArray, List.set_cons_zero, List.set_cons_succ])
  refine wpAnyK_take (i := 14) (v := ?_) rfl (by kernel_rfl) (by kernel_rfl) (by kernel_rfl) (by decide) (by kernel_rfl) (fun _ _ _ h => h) (Or.inl ⟨by rfl, ?_⟩) hS ?_
  rotate_left
  · intro w hSw
    (try dsimp only at hSw)
    go_simp
    with_reducible rfl
  (try simp only [Act.put, List.setIfInBounds_toArray, List.set_cons_zero, List.set_cons_succ])
  refine wpAnyK_take (i := 15) (v := ?_) rfl (by kernel_rfl) (by kernel_rfl) (by kernel_rfl) (by decide) (by kernel_rfl) (fun _ _ _ h => h) (Or.inl ⟨by rfl, ?_⟩) hS ?_
  rotate_left
  · intro w hSw
    (try dsimp only at hSw)
    go_simp
    with_reducible rfl
  (try simp only [Act.put, List.setIfInBounds_toArray, List.set_cons_zero, List.set_cons_succ])
  refine wpAnyK_take (i := 16) (v := ?_) rfl (by kernel_rfl) (by kernel_rfl) (by kernel_rfl) (by decide) (by kernel_rfl) (fun _ _ _ h => h) (Or.inl ⟨by rfl, ?_⟩) hS ?_
  rotate_left
  · intro w hSw
    (try dsimp only at hSw)
    go_simp
    with_reducible rfl
  (try simp only [Act.put, List.setIfInBounds_toArray, List.set_cons_zero, List.set_cons_succ])
  refine wpAnyK_take (i := 17) (v := ?_) rfl (by kernel_rfl) (by kernel_rfl) (by kernel_rfl) (by decide) (by kernel_rfl) (fun _ _ _ h => h) (Or.inl ⟨by rfl, ?_⟩) hS ?_
  rotate_left
  · intro w hSw
    (try dsimp only at hSw)
    go_simp
    with_reducible rfl
  (try simp only [Act.put, List.setIfInBounds_toArray, List.set_cons_zero, List.set_cons_succ])
  refine wpAnyK_take (i := 18) (v := ?_) rfl (by kernel_rfl) (by kernel_rfl) (by kernel_rfl) (by decide) (by kernel_rfl) (fun _ _ _ h => h) (Or.inl ⟨by rfl, ?_⟩) hS ?_
  rotate_left
  · intro w hSw
    (try dsimp only at hSw)
    go_simp
    with_reducible rfl
  (try simp only [Act.put, List.setIfInBounds_toArray, List.set_cons_zero, List.set_cons_succ])
  refine wpAnyK_take (i := 19) (v := ?_) rfl (by kernel_rfl) (by kernel_rfl) (by kernel_rfl) (by decide) (by kernel_rfl) (fun _ _ _ h => h) (Or.inl ⟨by rfl, ?_⟩) hS ?_
  rotate_left
  · intro w hSw
    (try dsimp only at hSw)
    go_simp
    with_reducible rfl
  (try simp only [Act.put, List.setIfInBounds_toArray, List.set_cons_zero, List.set_cons_succ])
  refine wpAnyK_take (i := 20) (v := ?_) rfl (by kernel_rfl) (by kernel_rfl) (by kernel_rfl) (by decide) (by kernel_rfl) (fun _ _ _ h => h) (Or.inl ⟨by rfl, ?_⟩) hS ?_
  rotate_left
  · intro w hSw
    (try dsimp only at hSw)
    go_simp
    with_reducible rfl
  (try simp only [Act.put, List.setIfInBounds_toArray, List.set_cons_zero, List.set_cons_succ])
  refine wpAnyK_take (i := 21) (v := ?_) rfl (by kernel_rfl) (by kernel_rfl) (by kernel_rfl) (by decide) (by kernel_rfl) (fun _ _ _ h => h) (Or.inl ⟨by rfl, ?_⟩) hS ?_
  rotate_left
  · intro w hSw
    (try dsimp only at hSw)
    go_simp
    with_reducible rfl
  (try simp only [Act.put, List.setIfInBounds_toArray, List.set_cons_zero, List.set_cons_succ])
  refine wpAnyK_take (i := 22) (v := ?_) rfl (by kernel_rfl) (by kernel_rfl) (by kernel_rfl) (by decide) (by kernel_rfl) (fun _ _ _ h => h) (Or.inl ⟨by rfl, ?_⟩) hS ?_
  rotate_left
  · intro w hSw
    (try dsimp only at hSw)
    go_simp
    with_reducible rfl
  (try simp only [Act.put, List.setIfInBounds_toArray, List.set_cons_zero, List.set_cons_succ])
  refine wpAnyK_take (i := 23) (v := ?_) rfl (by kernel_rfl) (by kernel_rfl) (by kernel_rfl) (by decide) (by kernel_rfl) (fun _ _ _ h => h) (Or.inl ⟨by rfl, ?_⟩) hS ?_
  rotate_left
  · intro w hSw
    (try dsimp only at hSw)
    go_simp
    with_reducible rfl
  (try simp only [Act.put, List.setIfInBounds_toArray, List.set_cons_zero, List.set_cons_succ])
  refine wpAnyK_take (i := 24) (v := ?_) rfl (by kernel_rfl) (by kernel_rfl) (by kernel_rfl) (by decide) (by kernel_rfl) (fun _ _ _ h => h) (Or.inl ⟨by rfl, ?_⟩) hS ?_
  rotate_left
  · intro w hSw
    (try dsimp only at hSw)
    go_simp
    with_reducible rfl
  (try simp only [Act.put, List.setIfInBounds_toArray, List.set_cons_zero, List.set_cons_succ])
  refine wpAnyK_take (i := 25) (v := ?_) rfl (by kernel_rfl) (by kernel_rfl) (by kernel_rfl) (by decide) (by kernel_rfl) (fun _ _ _ h => h) (Or.inl ⟨by rfl, ?_⟩) hS ?_
  rotate_left
  · intro w hSw
    (try dsimp only at hSw)
    go_simp
    with_reducible rfl
  (try simp only [Act.put, List.setIfInBounds_toArray, List.set_cons_zero, List.set_cons_succ])
  refine wpAnyK_take (i := 26) (v := ?_) rfl (by kernel_rfl) (by kernel_rfl) (by kernel_rfl) (by decide) (by kernel_rfl) (fun _ _ _ h => h) (Or.inl ⟨by rfl, ?_⟩) hS ?_
  rotate_left
  · intro w hSw
    (try dsimp only at hSw)
    go_simp
    with_reducible rfl
  (try simp only [Act.put, List.setIfInBounds_toArray, List.set_cons_zero, List.set_cons_succ])
  refine wpAnyK_take (i := 27) (v := ?_) rfl (by kernel_rfl) (by kernel_rfl) (by kernel_rfl) (by decide) (by kernel_rfl) (fun _ _ _ h => h) (Or.inl ⟨by rfl, ?_⟩) hS ?_
  rotate_left
  · intro w hSw
    (try dsimp only at hSw)
    go_simp
    with_reducible rfl
  (try simp only [Act.put, List.setIfInBounds_toArray, List.set_cons_zero, List.set_cons_succ])
  refine wpAnyK_take (i := 28) (v := ?_) rfl (by kernel_rfl) (by kernel_rfl) (by kernel_rfl) (by decide) (by kernel_rfl) (fun _ _ _ h => h) (Or.inl ⟨by rfl, ?_⟩) hS ?_
  rotate_left
  · intro w hSw
    (try dsimp only at hSw)
    go_simp
    with_reducible rfl
  (try simp only [Act.put, List.setIfInBounds_toArray, List.set_cons_zero, List.set_cons_succ])
  refine wpAnyK_take (i := 29) (v := ?_) rfl (by kernel_rfl) (by kernel_rfl) (by kernel_rfl) (by decide) (by kernel_rfl) (fun _ _ _ h => h) (Or.inl ⟨by rfl, ?_⟩) hS ?_
  rotate_left
  · intro w hSw
    (try dsimp only at hSw)
    go_simp
    with_reducible rfl
  (try simp only [Act.put, List.setIfInBounds_toArray, List.set_cons_zero, List.set_cons_succ])
  refine wpAnyK_take (i := 30) (v := ?_) rfl (by kernel_rfl) (by kernel_rfl) (by kernel_rfl) (by decide) (by kernel_rfl) (fun _ _ _ h => h) (Or.inl ⟨by rfl, ?_⟩) hS ?_
  rotate_left
  · intro w hSw
    (try dsimp only at hSw)
    go_simp
    with_reducible rfl
  (try simp only [Act.put, List.setIfInBounds_toArray, List.set_cons_zero, List.set_cons_succ])
  refine wpAnyK_take (i := 31) (v := ?_) rfl (by kernel_rfl) (by kernel_rfl) (by kernel_rfl) (by decide) (by kernel_rfl) (fun _ _ _ h => h) (Or.inl ⟨by rfl, ?_⟩) hS ?_
  rotate_left
  · intro w hSw
    (try dsimp only at hSw)
    go_simp
    with_reducible rfl
  (try simp only [Act.put, List.setIfInBounds_toArray, List.set_cons_zero, List.set_cons_succ])
  refine wpAnyK_take (i := 32) (v := ?_) rfl (by kernel_rfl) (by kernel_rfl) (by kernel_rfl) (by decide) (by kernel_rfl) (fun _ _ _ h => h) (Or.inl ⟨by rfl, ?_⟩) hS ?_
  rotate_left
  · intro w hSw
    (try dsimp only at hSw)
    go_simp
    with_reducible rfl
  (try simp only [Act.put, List.setIfInBounds_toArray, List.set_cons_zero, List.set_cons_succ])
  refine wpAnyK_take (i := 33) (v := ?_) rfl (by kernel_rfl) (by kernel_rfl) (by kernel_rfl) (by decide) (by kernel_rfl) (fun _ _ _ h => h) (Or.inl ⟨by rfl, ?_⟩) hS ?_
  rotate_left
  · intro w hSw
    (try dsimp only at hSw)
    go_simp
    with_reducible rfl
  (try simp only [Act.put, List.setIfInBounds_toArray, List.set_cons_zero, List.set_cons_succ])
  refine wpAnyK_take (i := 34) (v := ?_) rfl (by kernel_rfl) (by kernel_rfl) (by kernel_rfl) (by decide) (by kernel_rfl) (fun _ _ _ h => h) (Or.inl ⟨by rfl, ?_⟩) hS ?_
  rotate_left
  · intro w hSw
    (try dsimp only at hSw)
    go_simp
    with_reducible rfl
  (try simp only [Act.put, List.setIfInBounds_toArray, List.set_cons_zero, List.set_cons_succ])
  refine wpAnyK_step (i := 35) rfl (by kernel_rfl) rfl (fun K hK => ?_)
  go_simp
  refine hK.out _ _ ⟨x1 _, x3 _, x4 _, x5 _⟩ (fun hS => ?_)
  clear hK K
  (try simp only [Act.put, List.setIfInBounds_toArray, List.set_cons_zero, List.set_cons_succ])
  refine wpAnyK_step (i := 36) rfl (by kernel_rfl) rfl (fun K hK => ?_)
  go_simp
  (go_at_call 89; refine (insL_end none 0 0 base _ 1 [] (lkC ⟨mn, mx, x, true⟩) _ (World.ownsRow_nil _ _ _ _) rfl (new_cells2 w6.drew (lkC ⟨mn, mx, x, true⟩) 54) (oneL _) (by omega) (by have := HLE.out; simp; omega)).mono ?_; rintro e w7 ⟨A', c', rfl, ho7, hg7⟩; have hc7 := (HC6.out.alloc _).grown hg7 (by simp [Value.ownBlock]); have z0 := hc7.c1.1; have z1 := hc7.c1.2; have HC7 := Lib.hid hc7; have HO7 := Lib.hid ho7; have HN7 := Lib.hid ((World.ownsRow.alloc HO6.out _).kept hg7 (by cases (Value.slice A n c).ownBlock <;> simp [Value.ownBlock])); have HB7 := Lib.hid (((HW6.out.mono HB0.out).alloc HLE.out _).grown hg7 (by have := HLE.out; simp; omega) (by simp [Value.ownBlock])); have HG7 := Lib.hid hg7; clear ho7 hc7)
  (try go_wp2_with (fail))
  refine hK.out _ _ ⟨HC7.out.c1.1, HC7.out.c3.1, HC7.out.c4.1, HC7.out.c5.1⟩ (fun hS => ?_)
  clear hK K
  (try simp only [Act.put, List.setIfInBounds_toArray, List.set_cons_zero, List.set_cons_succ])
  refine wpAnyK_step (i := 37) rfl (by kernel_rfl) rfl (fun K hK => ?_)
  go_simp
  refine hK.out _ _ hS (fun _ => ?_)
  clear hK K
  (try simp only [Act.put, List.setIfInBounds_toArray, List.set_cons_zero, List.set_cons_succ])
  refine wpAnyK_step (i := 38) rfl (by kernel_rfl) rfl (fun K hK => ?_)
  go_simp
  refine hK.out _ _ hS (fun _ => ?_)
  clear hK K
  (try simp only [Act.put, List.setIfInBounds_toArray, List.set_cons_zero, List.set_cons_succ])
  refine wpAnyK_step (i := 39) rfl (by kernel_rfl) rfl (fun K hK => ?_)
  go_simp
  refine hK.out _ _ hS (fun _ => ?_)
  clear hK K
  (try simp only [Act.put, List.setIfInBounds_toArray, List.set_cons_zero, List.set_cons_succ])
  refine wpAnyK_last rfl (by kernel_rfl) (by kernel_rfl) rfl (fun K hK => ?_)
  go_simp
  refine hK.out _ _ ?_
  clear hK K
  (try simp only [Act.put, List.setIfInBounds_toArray, List.set_cons_zero, List.set_cons_succ])
  all_goals
    go_wp2_with (fail)
    go_ret
    exact ⟨A', c', rfl, HC7.out.s1 _, own_set2 HN7.out (own_ne HN7.out HC7.out (by decide)), own_set2 (show w7.ownsRow base 54 4 (.slice A' 1 c') 1 (lkC ⟨mn, mx, x, true⟩) from HO7.out) (own_ne HO7.out HC7.out (by decide)), HB7.out.setCell (p := ⟨g, 1, none⟩) hbg _, fun q hq hqg => (Go.heap_setCell_other w7 ⟨g, 1, none⟩ q _ hqg).trans ((HG7.out.block q (Nat.lt_of_lt_of_le (Nat.lt_of_lt_of_le hq HW6.out.size) ((Below.refl _ _).alloc (Nat.le_refl _) _).size) (by simp [Value.ownBlock])).trans ((Go.heap_alloc_old _ _ (Nat.lt_of_lt_of_le hq HW6.out.size)).trans (HW6.out.block q hq)))⟩

end Go.Proofs.Ytgmljlgoaifneaa
