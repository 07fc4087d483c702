/- The walks of the reference's bare and link. Conditions: as each theorem's hypotheses say. -/
import Derived.Test.YtgmljlgoaifneaaGdp
import Derived.Test.YtgmljlgoaifneaaGrc
namespace Go.Proofs.Ytgmljlgoaifneaa
open Go.RowKit Flt Go.Mem Go.Lib
set_option linter.unusedVariables false

attribute [local go_sem] run_store_float
set_option maxHeartbeats 1600000
set_option maxRecDepth 100000
theorem bare1o (a : Int) (w : World) : Calls Try.prog 36 #[.agg #[.int .i64 1, .int .i64 a, .int .i64 0, .float .f64 0]] w fun e w' => e = .returned (.bool true) ∧ Below w.heap.size w w' := by
  go_enter Try.func36, Try.ntmps36
  go_wp2_with (first | (go_at_call 34; refine (same_any _ _ _).mono ?_; rintro e w2 ⟨rfl, rfl⟩))
  go_ret
  exact ⟨rfl, (Below.refl _ _).alloc (Nat.le_refl _) _⟩
theorem bare1x (a : Int) (x : Nat) (hx : ¬ x = 0) (w : World) : Calls Try.prog 36 #[.agg #[.int .i64 1, .int .i64 a, .int .i64 0, .float .f64 x]] w fun e w' => e = .returned (.bool false) ∧ Below w.heap.size w w' := by
  have hxb : (x == 0) = false := by rw [beq_eq_false_iff_ne]; exact hx
  go_enter Try.func36, Try.ntmps36
  go_wp2_with (first | (go_at_call 34; refine (same_any _ _ _).mono ?_; rintro e w2 ⟨rfl, rfl⟩))
  go_ret
  exact ⟨rfl, (Below.refl _ _).alloc (Nat.le_refl _) _⟩
theorem bare1b (a b : Int) (x : Nat) (hb : ¬ b = 0) (w : World) : Calls Try.prog 36 #[.agg #[.int .i64 1, .int .i64 a, .int .i64 b, .float .f64 x]] w fun e w' => e = .returned (.bool false) ∧ Below w.heap.size w w' := by
  have hbb : (b == 0) = false := by rw [beq_eq_false_iff_ne]; exact hb
  go_enter Try.func36, Try.ntmps36
  go_wp2_with (first | (go_at_call 34; refine (same_any _ _ _).mono ?_; rintro e w2 ⟨rfl, rfl⟩))
  go_ret
  exact ⟨rfl, (Below.refl _ _).alloc (Nat.le_refl _) _⟩
theorem bare2o (a b : Int) (x : Nat) (w : World) : Calls Try.prog 36 #[.agg #[.int .i64 2, .int .i64 a, .int .i64 b, .float .f64 x]] w fun e w' => e = .returned (.bool true) ∧ Below w.heap.size w w' := by
  go_enter Try.func36, Try.ntmps36
  go_wp2_with (first | (go_at_call 34; refine (same_any _ _ _).mono ?_; rintro e w2 ⟨rfl, rfl⟩))
  go_ret
  exact ⟨rfl, (Below.refl _ _).alloc (Nat.le_refl _) _⟩
theorem bare3o (a b : Int) (x : Nat) (w : World) : Calls Try.prog 36 #[.agg #[.int .i64 3, .int .i64 a, .int .i64 b, .float .f64 x]] w fun e w' => e = .returned (.bool true) ∧ Below w.heap.size w w' := by
  go_enter Try.func36, Try.ntmps36
  go_wp2_with (first | (go_at_call 34; refine (same_any _ _ _).mono ?_; rintro e w2 ⟨rfl, rfl⟩))
  go_ret
  exact ⟨rfl, (Below.refl _ _).alloc (Nat.le_refl _) _⟩
theorem bare4o (a b : Int) (w : World) : Calls Try.prog 36 #[.agg #[.int .i64 4, .int .i64 a, .int .i64 b, .float .f64 0]] w fun e w' => e = .returned (.bool true) ∧ Below w.heap.size w w' := by
  go_enter Try.func36, Try.ntmps36
  go_wp2_with (first | (go_at_call 34; refine (same_any _ _ _).mono ?_; rintro e w2 ⟨rfl, rfl⟩))
  go_ret
  exact ⟨rfl, (Below.refl _ _).alloc (Nat.le_refl _) _⟩
theorem bare4x (a b : Int) (x : Nat) (hx : ¬ x = 0) (w : World) : Calls Try.prog 36 #[.agg #[.int .i64 4, .int .i64 a, .int .i64 b, .float .f64 x]] w fun e w' => e = .returned (.bool false) ∧ Below w.heap.size w w' := by
  have hxb : (x == 0) = false := by rw [beq_eq_false_iff_ne]; exact hx
  go_enter Try.func36, Try.ntmps36
  go_wp2_with (first | (go_at_call 34; refine (same_any _ _ _).mono ?_; rintro e w2 ⟨rfl, rfl⟩))
  go_ret
  exact ⟨rfl, (Below.refl _ _).alloc (Nat.le_refl _) _⟩
theorem bare5o (a b : Int) (w : World) : Calls Try.prog 36 #[.agg #[.int .i64 5, .int .i64 a, .int .i64 b, .float .f64 0]] w fun e w' => e = .returned (.bool true) ∧ Below w.heap.size w w' := by
  go_enter Try.func36, Try.ntmps36
  go_wp2_with (first | (go_at_call 34; refine (same_any _ _ _).mono ?_; rintro e w2 ⟨rfl, rfl⟩))
  go_ret
  exact ⟨rfl, (Below.refl _ _).alloc (Nat.le_refl _) _⟩
theorem bare5x (a b : Int) (x : Nat) (hx : ¬ x = 0) (w : World) : Calls Try.prog 36 #[.agg #[.int .i64 5, .int .i64 a, .int .i64 b, .float .f64 x]] w fun e w' => e = .returned (.bool false) ∧ Below w.heap.size w w' := by
  have hxb : (x == 0) = false := by rw [beq_eq_false_iff_ne]; exact hx
  go_enter Try.func36, Try.ntmps36
  go_wp2_with (first | (go_at_call 34; refine (same_any _ _ _).mono ?_; rintro e w2 ⟨rfl, rfl⟩))
  go_ret
  exact ⟨rfl, (Below.refl _ _).alloc (Nat.le_refl _) _⟩
theorem bare6o (a : Int) (w : World) : Calls Try.prog 36 #[.agg #[.int .i64 6, .int .i64 a, .int .i64 0, .float .f64 0]] w fun e w' => e = .returned (.bool true) ∧ Below w.heap.size w w' := by
  go_enter Try.func36, Try.ntmps36
  go_wp2_with (first | (go_at_call 34; refine (same_any _ _ _).mono ?_; rintro e w2 ⟨rfl, rfl⟩))
  go_ret
  exact ⟨rfl, (Below.refl _ _).alloc (Nat.le_refl _) _⟩
theorem bare6x (a : Int) (x : Nat) (hx : ¬ x = 0) (w : World) : Calls Try.prog 36 #[.agg #[.int .i64 6, .int .i64 a, .int .i64 0, .float .f64 x]] w fun e w' => e = .returned (.bool false) ∧ Below w.heap.size w w' := by
  have hxb : (x == 0) = false := by rw [beq_eq_false_iff_ne]; exact hx
  go_enter Try.func36, Try.ntmps36
  go_wp2_with (first | (go_at_call 34; refine (same_any _ _ _).mono ?_; rintro e w2 ⟨rfl, rfl⟩))
  go_ret
  exact ⟨rfl, (Below.refl _ _).alloc (Nat.le_refl _) _⟩
theorem bare6b (a b : Int) (x : Nat) (hb : ¬ b = 0) (w : World) : Calls Try.prog 36 #[.agg #[.int .i64 6, .int .i64 a, .int .i64 b, .float .f64 x]] w fun e w' => e = .returned (.bool false) ∧ Below w.heap.size w w' := by
  have hbb : (b == 0) = false := by rw [beq_eq_false_iff_ne]; exact hb
  go_enter Try.func36, Try.ntmps36
  go_wp2_with (first | (go_at_call 34; refine (same_any _ _ _).mono ?_; rintro e w2 ⟨rfl, rfl⟩))
  go_ret
  exact ⟨rfl, (Below.refl _ _).alloc (Nat.le_refl _) _⟩
theorem bare7o (a : Int) (w : World) : Calls Try.prog 36 #[.agg #[.int .i64 7, .int .i64 a, .int .i64 0, .float .f64 0]] w fun e w' => e = .returned (.bool true) ∧ Below w.heap.size w w' := by
  go_enter Try.func36, Try.ntmps36
  go_wp2_with (first | (go_at_call 34; refine (same_any _ _ _).mono ?_; rintro e w2 ⟨rfl, rfl⟩))
  go_ret
  exact ⟨rfl, (Below.refl _ _).alloc (Nat.le_refl _) _⟩
theorem bare7x (a : Int) (x : Nat) (hx : ¬ x = 0) (w : World) : Calls Try.prog 36 #[.agg #[.int .i64 7, .int .i64 a, .int .i64 0, .float .f64 x]] w fun e w' => e = .returned (.bool false) ∧ Below w.heap.size w w' := by
  have hxb : (x == 0) = false := by rw [beq_eq_false_iff_ne]; exact hx
  go_enter Try.func36, Try.ntmps36
  go_wp2_with (first | (go_at_call 34; refine (same_any _ _ _).mono ?_; rintro e w2 ⟨rfl, rfl⟩))
  go_ret
  exact ⟨rfl, (Below.refl _ _).alloc (Nat.le_refl _) _⟩
theorem bare7b (a b : Int) (x : Nat) (hb : ¬ b = 0) (w : World) : Calls Try.prog 36 #[.agg #[.int .i64 7, .int .i64 a, .int .i64 b, .float .f64 x]] w fun e w' => e = .returned (.bool false) ∧ Below w.heap.size w w' := by
  have hbb : (b == 0) = false := by rw [beq_eq_false_iff_ne]; exact hb
  go_enter Try.func36, Try.ntmps36
  go_wp2_with (first | (go_at_call 34; refine (same_any _ _ _).mono ?_; rintro e w2 ⟨rfl, rfl⟩))
  go_ret
  exact ⟨rfl, (Below.refl _ _).alloc (Nat.le_refl _) _⟩
theorem bare8o (a : Int) (w : World) : Calls Try.prog 36 #[.agg #[.int .i64 8, .int .i64 a, .int .i64 0, .float .f64 0]] w fun e w' => e = .returned (.bool true) ∧ Below w.heap.size w w' := by
  go_enter Try.func36, Try.ntmps36
  go_wp2_with (first | (go_at_call 34; refine (same_any _ _ _).mono ?_; rintro e w2 ⟨rfl, rfl⟩))
  go_ret
  exact ⟨rfl, (Below.refl _ _).alloc (Nat.le_refl _) _⟩
theorem bare8x (a : Int) (x : Nat) (hx : ¬ x = 0) (w : World) : Calls Try.prog 36 #[.agg #[.int .i64 8, .int .i64 a, .int .i64 0, .float .f64 x]] w fun e w' => e = .returned (.bool false) ∧ Below w.heap.size w w' := by
  have hxb : (x == 0) = false := by rw [beq_eq_false_iff_ne]; exact hx
  go_enter Try.func36, Try.ntmps36
  go_wp2_with (first | (go_at_call 34; refine (same_any _ _ _).mono ?_; rintro e w2 ⟨rfl, rfl⟩))
  go_ret
  exact ⟨rfl, (Below.refl _ _).alloc (Nat.le_refl _) _⟩
theorem bare8b (a b : Int) (x : Nat) (hb : ¬ b = 0) (w : World) : Calls Try.prog 36 #[.agg #[.int .i64 8, .int .i64 a, .int .i64 b, .float .f64 x]] w fun e w' => e = .returned (.bool false) ∧ Below w.heap.size w w' := by
  have hbb : (b == 0) = false := by rw [beq_eq_false_iff_ne]; exact hb
  go_enter Try.func36, Try.ntmps36
  go_wp2_with (first | (go_at_call 34; refine (same_any _ _ _).mono ?_; rintro e w2 ⟨rfl, rfl⟩))
  go_ret
  exact ⟨rfl, (Below.refl _ _).alloc (Nat.le_refl _) _⟩
theorem bare9o (a : Int) (w : World) : Calls Try.prog 36 #[.agg #[.int .i64 9, .int .i64 a, .int .i64 0, .float .f64 0]] w fun e w' => e = .returned (.bool true) ∧ Below w.heap.size w w' := by
  go_enter Try.func36, Try.ntmps36
  go_wp2_with (first | (go_at_call 34; refine (same_any _ _ _).mono ?_; rintro e w2 ⟨rfl, rfl⟩))
  go_ret
  exact ⟨rfl, (Below.refl _ _).alloc (Nat.le_refl _) _⟩
theorem bare9x (a : Int) (x : Nat) (hx : ¬ x = 0) (w : World) : Calls Try.prog 36 #[.agg #[.int .i64 9, .int .i64 a, .int .i64 0, .float .f64 x]] w fun e w' => e = .returned (.bool false) ∧ Below w.heap.size w w' := by
  have hxb : (x == 0) = false := by rw [beq_eq_false_iff_ne]; exact hx
  go_enter Try.func36, Try.ntmps36
  go_wp2_with (first | (go_at_call 34; refine (same_any _ _ _).mono ?_; rintro e w2 ⟨rfl, rfl⟩))
  go_ret
  exact ⟨rfl, (Below.refl _ _).alloc (Nat.le_refl _) _⟩
theorem bare9b (a b : Int) (x : Nat) (hb : ¬ b = 0) (w : World) : Calls Try.prog 36 #[.agg #[.int .i64 9, .int .i64 a, .int .i64 b, .float .f64 x]] w fun e w' => e = .returned (.bool false) ∧ Below w.heap.size w w' := by
  have hbb : (b == 0) = false := by rw [beq_eq_false_iff_ne]; exact hb
  go_enter Try.func36, Try.ntmps36
  go_wp2_with (first | (go_at_call 34; refine (same_any _ _ _).mono ?_; rintro e w2 ⟨rfl, rfl⟩))
  go_ret
  exact ⟨rfl, (Below.refl _ _).alloc (Nat.le_refl _) _⟩
theorem bareLo (k a b : Int) (x : Nat) (hk : k < 1) (w : World) : Calls Try.prog 36 #[.agg #[.int .i64 k, .int .i64 a, .int .i64 b, .float .f64 x]] w fun e w' => e = .returned (.bool false) ∧ Below w.heap.size w w' := by
  have h1 : ¬ (1 : Int) ≤ k := by omega
  have h2 : ¬ (2 : Int) ≤ k := by omega
  have h3 : (k == 2) = false := by rw [beq_eq_false_iff_ne]; omega
  have h4 : (k == 3) = false := by rw [beq_eq_false_iff_ne]; omega
  go_enter Try.func36, Try.ntmps36
  go_wp2_with (first | (go_at_call 34; refine (same_any _ _ _).mono ?_; rintro e w2 ⟨rfl, rfl⟩))
  go_ret
  exact ⟨rfl, (Below.refl _ _).alloc (Nat.le_refl _) _⟩
theorem bareHi (k a b : Int) (x : Nat) (hk : 9 < k) (w : World) : Calls Try.prog 36 #[.agg #[.int .i64 k, .int .i64 a, .int .i64 b, .float .f64 x]] w fun e w' => e = .returned (.bool false) ∧ Below w.heap.size w w' := by
  have h1 : (1 : Int) ≤ k := by omega
  have h5 : ¬ k ≤ (9 : Int) := by omega
  have h6 : ¬ k ≤ (5 : Int) := by omega
  have h2 : (2 : Int) ≤ k := by omega
  have h3 : (k == 2) = false := by rw [beq_eq_false_iff_ne]; omega
  have h4 : (k == 3) = false := by rw [beq_eq_false_iff_ne]; omega
  go_enter Try.func36, Try.ntmps36
  go_wp2_with (first | (go_at_call 34; refine (same_any _ _ _).mono ?_; rintro e w2 ⟨rfl, rfl⟩))
  go_ret
  exact ⟨rfl, (Below.refl _ _).alloc (Nat.le_refl _) _⟩
theorem bare_any (k a b : Int) (x : Nat) (w : World) : Calls Try.prog 36 #[.agg #[.int .i64 k, .int .i64 a, .int .i64 b, .float .f64 x]] w fun e w' => e = .returned (.bool (bareB k b x)) ∧ Below w.heap.size w w' := by
  by_cases hlo : k < 1
  · rw [show bareB k b x = false by cases h : bareB k b x; rfl; have := bareB_kind h; omega]
    exact bareLo k a b x hlo w
  · by_cases hhi : 9 < k
    · rw [show bareB k b x = false by cases h : bareB k b x; rfl; have := bareB_kind h; omega]
      exact bareHi k a b x hhi w
    · have h : k = 1 ∨ k = 2 ∨ k = 3 ∨ k = 4 ∨ k = 5 ∨ k = 6 ∨ k = 7 ∨ k = 8 ∨ k = 9 := by omega
      rcases h with rfl | rfl | rfl | rfl | rfl | rfl | rfl | rfl | rfl
      · by_cases hb : b = 0
        · subst hb
          by_cases hx : x = 0
          · subst hx; rw [show bareB 1 0 0 = true by unfold bareB; simp]; exact bare1o a w
          · rw [show bareB 1 0 x = false by unfold bareB; simp [hx]]; exact bare1x a x hx w
        · rw [show bareB 1 b x = false by unfold bareB; simp [hb]]; exact bare1b a b x hb w
      · rw [show bareB 2 b x = true by unfold bareB; simp]; exact bare2o a b x w
      · rw [show bareB 3 b x = true by unfold bareB; simp]; exact bare3o a b x w
      · by_cases hx : x = 0
        · subst hx; rw [show bareB 4 b 0 = true by unfold bareB; simp]; exact bare4o a b w
        · rw [show bareB 4 b x = false by unfold bareB; simp [hx]]; exact bare4x a b x hx w
      · by_cases hx : x = 0
        · subst hx; rw [show bareB 5 b 0 = true by unfold bareB; simp]; exact bare5o a b w
        · rw [show bareB 5 b x = false by unfold bareB; simp [hx]]; exact bare5x a b x hx w
      · by_cases hb : b = 0
        · subst hb
          by_cases hx : x = 0
          · subst hx; rw [show bareB 6 0 0 = true by unfold bareB; simp]; exact bare6o a w
          · rw [show bareB 6 0 x = false by unfold bareB; simp [hx]]; exact bare6x a x hx w
        · rw [show bareB 6 b x = false by unfold bareB; simp [hb]]; exact bare6b a b x hb w
      · by_cases hb : b = 0
        · subst hb
          by_cases hx : x = 0
          · subst hx; rw [show bareB 7 0 0 = true by unfold bareB; simp]; exact bare7o a w
          · rw [show bareB 7 0 x = false by unfold bareB; simp [hx]]; exact bare7x a x hx w
        · rw [show bareB 7 b x = false by unfold bareB; simp [hb]]; exact bare7b a b x hb w
      · by_cases hb : b = 0
        · subst hb
          by_cases hx : x = 0
          · subst hx; rw [show bareB 8 0 0 = true by unfold bareB; simp]; exact bare8o a w
          · rw [show bareB 8 0 x = false by unfold bareB; simp [hx]]; exact bare8x a x hx w
        · rw [show bareB 8 b x = false by unfold bareB; simp [hb]]; exact bare8b a b x hb w
      · by_cases hb : b = 0
        · subst hb
          by_cases hx : x = 0
          · subst hx; rw [show bareB 9 0 0 = true by unfold bareB; simp]; exact bare9o a w
          · rw [show bareB 9 0 x = false by unfold bareB; simp [hx]]; exact bare9x a x hx w
        · rw [show bareB 9 b x = false by unfold bareB; simp [hb]]; exact bare9b a b x hb w
/-- where a link stands -/
def LnkR (ls : List Lk) (t : Lk) (p : Int) : Prop := (p = -1 ∧ hasL ls t = false) ∨ (hasL ls t = true ∧ p = (cntL ls t : Nat))
theorem cntL_at {ls : List Lk} (hr : RiseL ls) {t : Lk} {i : Nat} (hi : i < ls.length) (e1 : (lkA ls i).a = t.a) (e2 : (lkA ls i).b = t.b) : hasL ls t = true ∧ cntL ls t = i := by
  refine ⟨hasL_iff.2 ⟨i, hi, e1, e2⟩, bl_end (by omega) (fun k hk => ?_) (fun k hk hl h => ?_)⟩
  · have := hr k i hk hi
    rw [lkLt_iff] at this ⊢; omega
  · by_cases e : i = k
    · subst e; rw [lkLt_iff] at h; omega
    · have := hr i k (by omega) hl
      rw [lkLt_iff] at this h; omega
theorem rlink_lo (A A2 : Option Addr) (n c m c2 : Nat) (ls : List Lk) (a b : Int) (w : World) (hl : GL w w.heap.size A2 m ls) (hr : RiseL ls) (hm : m ≤ 1152921504606846976) (hab : ¬ b < a) :
    Calls Try.prog 39 #[.agg #[.slice A n c, .slice A2 m c2], .int .i64 a, .int .i64 b] w fun e w' => ∃ p, e = .returned (.int .i64 p) ∧ LnkR ls ⟨a, b, 0, false⟩ p ∧ Below w.heap.size w w' := by
  have HL := Lib.hid hl
  have HR := Lib.hid hr
  clear hl hr
  go_enter Try.func39, Try.ntmps39
  go_wp2_with (fail)
  have HX := Lib.hid (show (w.alloc (.cells #[.slice A n c, .slice A2 m c2] 25)).cell? ⟨w.heap.size, 0, none⟩ = some (.slice A n c) ∧ (w.alloc (.cells #[.slice A n c, .slice A2 m c2] 25)).cell? ⟨w.heap.size, 1, none⟩ = some (.slice A2 m c2) ∧ Below w.heap.size w (w.alloc (.cells #[.slice A n c, .slice A2 m c2] 25)) from ⟨(Go.cell_of_row _ w.heap.size 0 _ _ _ (Go.heap_alloc_new w _)).trans rfl, (Go.cell_of_row _ w.heap.size 1 _ _ _ (Go.heap_alloc_new w _)).trans rfl, (Below.refl _ _).alloc (Nat.le_refl _) _⟩)
  generalize hW1 : w.alloc (.cells #[.slice A n c, .slice A2 m c2] 25) = W1 at *
  clear hW1
  obtain ⟨e0, e1⟩ := And.intro HX.out.1 HX.out.2.1
  go_loop [7] (fun iv => ∃ i : Nat, i ≤ m ∧ iv = .int .i64 i ∧ Hid (∀ k, k < i → ¬ ((lkA ls k).a = a ∧ (lkA ls k).b = b))) (fun iv => m - (intOf iv).toNat)
  case atStart => exact ⟨0, Nat.zero_le _, rfl, Lib.hid (fun k hk => absurd hk (Nat.not_lt_zero _))⟩
  case round =>
    obtain ⟨i, hi, rfl, HT⟩ := hrel
    by_cases hin : i < m
    · obtain ⟨p, off, rfl, hbl, hc⟩ := HL.out.at (by omega)
      have d0 := (HX.out.2.2.cell (p := ⟨p, off + i * 4, none⟩) hbl).trans (hc i hin).1
      have d1 := (HX.out.2.2.cell (p := ⟨p, off + (i * 4 + 1), none⟩) hbl).trans (hc i hin).2.1
      rw [← Nat.add_assoc] at d1
      obtain ⟨x, hx⟩ : ∃ x, x = (lkA ls i).a := ⟨_, rfl⟩
      obtain ⟨y, hy⟩ : ∃ y, y = (lkA ls i).b := ⟨_, rfl⟩
      rw [← hx] at d0
      rw [← hy] at d1
      have HXX := Lib.hid (And.intro hx hy)
      clear hx hy hc
      by_cases hxt : x = a
      · have hxb0 : (x == a) = true := by rw [beq_iff_eq]; exact hxt
        by_cases hyt : y = b
        · have hyb0 : (y == b) = true := by rw [beq_iff_eq]; exact hyt
          have HQ := Lib.hid (cntL_at HR.out (t := ⟨a, b, 0, false⟩) (i := i) (by rw [HL.out.1]; exact hin) (HXX.out.1.symm.trans hxt) (HXX.out.2.symm.trans hyt))
          clear hxt hyt
          go_wp2_with (fail)
          go_ret
          exact ⟨_, rfl, .inr ⟨HQ.out.1, by rw [HQ.out.2]⟩, HX.out.2.2⟩
        · have hyb : (y == b) = false := by rw [beq_eq_false_iff_ne]; exact hyt
          have HNE := Lib.hid hyt
          clear hxt
          go_wp2_with (fail)
          go_round
          case rel => exact ⟨i + 1, by omega, by go_num, Lib.hid (fun k hk h => by
            by_cases e : k = i
            · subst e; rw [← HXX.out.2] at h; exact HNE.out h.2
            · exact HT.out k (by omega) h)⟩
          case measure => simp [intOf]; omega
      · have hxb : (x == a) = false := by rw [beq_eq_false_iff_ne]; exact hxt
        have HNE := Lib.hid hxt
        go_wp2_with (fail)
        go_round
        case rel => exact ⟨i + 1, by omega, by go_num, Lib.hid (fun k hk h => by
          by_cases e : k = i
          · subst e; rw [← HXX.out.1] at h; exact HNE.out h.1
          · exact HT.out k (by omega) h)⟩
        case measure => simp [intOf]; omega
    · obtain rfl : i = m := by omega
      have hno : hasL ls ⟨a, b, 0, false⟩ = false := by
        cases h : hasL ls ⟨a, b, 0, false⟩
        · rfl
        · obtain ⟨k, hk, e⟩ := hasL_iff.1 h
          exact absurd e (HT.out k (by rw [← HL.out.1]; exact hk))
      have HNO := Lib.hid hno
      clear hno
      go_wp2_with (fail)
      go_ret
      exact ⟨_, rfl, .inl ⟨rfl, HNO.out⟩, HX.out.2.2⟩
theorem rlink_hi (A A2 : Option Addr) (n c m c2 : Nat) (ls : List Lk) (a b : Int) (w : World) (hl : GL w w.heap.size A2 m ls) (hr : RiseL ls) (hm : m ≤ 1152921504606846976) (hab : b < a) :
    Calls Try.prog 39 #[.agg #[.slice A n c, .slice A2 m c2], .int .i64 a, .int .i64 b] w fun e w' => ∃ p, e = .returned (.int .i64 p) ∧ LnkR ls ⟨b, a, 0, false⟩ p ∧ Below w.heap.size w w' := by
  have HL := Lib.hid hl
  have HR := Lib.hid hr
  clear hl hr
  go_enter Try.func39, Try.ntmps39
  go_wp2_with (fail)
  have HX := Lib.hid (show (w.alloc (.cells #[.slice A n c, .slice A2 m c2] 25)).cell? ⟨w.heap.size, 0, none⟩ = some (.slice A n c) ∧ (w.alloc (.cells #[.slice A n c, .slice A2 m c2] 25)).cell? ⟨w.heap.size, 1, none⟩ = some (.slice A2 m c2) ∧ Below w.heap.size w (w.alloc (.cells #[.slice A n c, .slice A2 m c2] 25)) from ⟨(Go.cell_of_row _ w.heap.size 0 _ _ _ (Go.heap_alloc_new w _)).trans rfl, (Go.cell_of_row _ w.heap.size 1 _ _ _ (Go.heap_alloc_new w _)).trans rfl, (Below.refl _ _).alloc (Nat.le_refl _) _⟩)
  generalize hW1 : w.alloc (.cells #[.slice A n c, .slice A2 m c2] 25) = W1 at *
  clear hW1
  obtain ⟨e0, e1⟩ := And.intro HX.out.1 HX.out.2.1
  go_loop [7] (fun iv => ∃ i : Nat, i ≤ m ∧ iv = .int .i64 i ∧ Hid (∀ k, k < i → ¬ ((lkA ls k).a = b ∧ (lkA ls k).b = a))) (fun iv => m - (intOf iv).toNat)
  case atStart => exact ⟨0, Nat.zero_le _, rfl, Lib.hid (fun k hk => absurd hk (Nat.not_lt_zero _))⟩
  case round =>
    obtain ⟨i, hi, rfl, HT⟩ := hrel
    by_cases hin : i < m
    · obtain ⟨p, off, rfl, hbl, hc⟩ := HL.out.at (by omega)
      have d0 := (HX.out.2.2.cell (p := ⟨p, off + i * 4, none⟩) hbl).trans (hc i hin).1
      have d1 := (HX.out.2.2.cell (p := ⟨p, off + (i * 4 + 1), none⟩) hbl).trans (hc i hin).2.1
      rw [← Nat.add_assoc] at d1
      obtain ⟨x, hx⟩ : ∃ x, x = (lkA ls i).a := ⟨_, rfl⟩
      obtain ⟨y, hy⟩ : ∃ y, y = (lkA ls i).b := ⟨_, rfl⟩
      rw [← hx] at d0
      rw [← hy] at d1
      have HXX := Lib.hid (And.intro hx hy)
      clear hx hy hc
      by_cases hxt : x = b
      · have hxb0 : (x == b) = true := by rw [beq_iff_eq]; exact hxt
        by_cases hyt : y = a
        · have hyb0 : (y == a) = true := by rw [beq_iff_eq]; exact hyt
          have HQ := Lib.hid (cntL_at HR.out (t := ⟨b, a, 0, false⟩) (i := i) (by rw [HL.out.1]; exact hin) (HXX.out.1.symm.trans hxt) (HXX.out.2.symm.trans hyt))
          clear hxt hyt
          go_wp2_with (fail)
          go_ret
          exact ⟨_, rfl, .inr ⟨HQ.out.1, by rw [HQ.out.2]⟩, HX.out.2.2⟩
        · have hyb : (y == a) = false := by rw [beq_eq_false_iff_ne]; exact hyt
          have HNE := Lib.hid hyt
          clear hxt
          go_wp2_with (fail)
          go_round
          case rel => exact ⟨i + 1, by omega, by go_num, Lib.hid (fun k hk h => by
            by_cases e : k = i
            · subst e; rw [← HXX.out.2] at h; exact HNE.out h.2
            · exact HT.out k (by omega) h)⟩
          case measure => simp [intOf]; omega
      · have hxb : (x == b) = false := by rw [beq_eq_false_iff_ne]; exact hxt
        have HNE := Lib.hid hxt
        go_wp2_with (fail)
        go_round
        case rel => exact ⟨i + 1, by omega, by go_num, Lib.hid (fun k hk h => by
          by_cases e : k = i
          · subst e; rw [← HXX.out.1] at h; exact HNE.out h.1
          · exact HT.out k (by omega) h)⟩
        case measure => simp [intOf]; omega
    · obtain rfl : i = m := by omega
      have hno : hasL ls ⟨b, a, 0, false⟩ = false := by
        cases h : hasL ls ⟨b, a, 0, false⟩
        · rfl
        · obtain ⟨k, hk, e⟩ := hasL_iff.1 h
          exact absurd e (HT.out k (by rw [← HL.out.1]; exact hk))
      have HNO := Lib.hid hno
      clear hno
      go_wp2_with (fail)
      go_ret
      exact ⟨_, rfl, .inl ⟨rfl, HNO.out⟩, HX.out.2.2⟩
theorem rlink_any (A A2 : Option Addr) (n c m c2 : Nat) (ls : List Lk) (a b : Int) (w : World) (hl : GL w w.heap.size A2 m ls) (hr : RiseL ls) (hm : m ≤ 1152921504606846976) :
    Calls Try.prog 39 #[.agg #[.slice A n c, .slice A2 m c2], .int .i64 a, .int .i64 b] w fun e w' => ∃ p, e = .returned (.int .i64 p) ∧ LnkR ls (lkT a b) p ∧ Below w.heap.size w w' := by
  by_cases hab : b < a
  · have e : lkT a b = ⟨b, a, 0, false⟩ := by unfold lkT mnI mxI; rw [if_pos hab, if_neg (by omega)]
    rw [e]; exact rlink_hi A A2 n c m c2 ls a b w hl hr hm hab
  · have e : lkT a b = ⟨a, b, 0, false⟩ := by
      unfold lkT mnI mxI; rw [if_neg hab]
      by_cases h2 : a < b
      · rw [if_pos h2]
      · rw [if_neg h2]; have : a = b := by omega
        rw [this]
    rw [e]; exact rlink_lo A A2 n c m c2 ls a b w hl hr hm hab
theorem rlink_no {A A2 : Option Addr} {n c m c2 : Nat} {ls : List Lk} {a b : Int} {w : World} (hl : GL w w.heap.size A2 m ls) (hr : RiseL ls) (hm : m ≤ 1152921504606846976) (h : hasL ls (lkT a b) = false) :
    Calls Try.prog 39 #[.agg #[.slice A n c, .slice A2 m c2], .int .i64 a, .int .i64 b] w fun e w' => e = .returned (.int .i64 (-1)) ∧ Below w.heap.size w w' :=
  (rlink_any A A2 n c m c2 ls a b w hl hr hm).mono fun e w' hh => by
    obtain ⟨p, he, h1, hb⟩ := hh
    rcases h1 with ⟨rfl, _⟩ | ⟨h2, _⟩
    · exact ⟨he, hb⟩
    · rw [h] at h2; cases h2
theorem rlink_yes {A A2 : Option Addr} {n c m c2 : Nat} {ls : List Lk} {a b : Int} {w : World} (hl : GL w w.heap.size A2 m ls) (hr : RiseL ls) (hm : m ≤ 1152921504606846976) (h : hasL ls (lkT a b) = true) :
    Calls Try.prog 39 #[.agg #[.slice A n c, .slice A2 m c2], .int .i64 a, .int .i64 b] w fun e w' => e = .returned (.int .i64 (cntL ls (lkT a b) : Nat)) ∧ Below w.heap.size w w' :=
  (rlink_any A A2 n c m c2 ls a b w hl hr hm).mono fun e w' hh => by
    obtain ⟨p, he, h1, hb⟩ := hh
    rcases h1 with ⟨_, h2⟩ | ⟨_, rfl⟩
    · rw [h] at h2; cases h2
    · exact ⟨he, hb⟩

end Go.Proofs.Ytgmljlgoaifneaa
