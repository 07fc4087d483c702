/- The walks of the laws of the metric layer that need no arithmetic: each returns true and writes nothing that was there. Conditions: the words fit 64 bits. -/
import Derived.Test.YtcpbanekjncekaaDis
namespace Go.Proofs.Ytcpbanekjncekaa
open Go.RowKit Flt

theorem below_drewN {B : Nat} {a w : World} (h : Below B a w) (n : Nat) : Below B a (w.drewN n) := ⟨h.os, h.tape, h.output, h.size, h.block⟩
theorem cmpI_self (a : Nat) : cmpI a a = 0 := by
  unfold cmpI
  have h1 : flt a a = false := by unfold flt; simp
  cases isnan a <;> simp [fgt, h1]
theorem cmpI_bd (a b : Nat) : -1 ≤ cmpI a b ∧ cmpI a b ≤ 1 := by
  unfold cmpI; repeat' split
  all_goals omega
theorem cmpI_swap (a b : Nat) : cmpI b a = -(cmpI a b) := by
  unfold cmpI
  cases ha : isnan a <;> cases hb : isnan b <;> simp only [if_true, if_false, Bool.false_eq_true]
  · have h1 : fgt b a = flt a b := rfl
    have h2 : fgt a b = flt b a := rfl
    rw [h1, h2, flt_of ha hb, flt_of hb ha]
    by_cases k1 : key a < key b
    · have k2 : ¬ key b < key a := by omega
      simp [k1, k2]
    · by_cases k2 : key b < key a
      · simp [k1, k2]
      · simp [k1, k2]
  · rfl
  · rfl
/-- a float's place in the order: its key; a NaN is past all -/
def place (a : Nat) : Int := if isnan a then 9223372036854775808 else key a
theorem cmpI_place (a b : Nat) : (cmpI a b < 0 ↔ place a < place b) ∧ (cmpI a b = 0 ↔ place a = place b) ∧ (0 < cmpI a b ↔ place b < place a) := by
  have k1 := key_bd a
  have k2 := key_bd b
  unfold cmpI place
  cases ha : isnan a <;> cases hb : isnan b <;> simp only [if_true, if_false, Bool.false_eq_true]
  · have h2 : fgt a b = flt b a := rfl
    rw [h2, flt_of ha hb, flt_of hb ha]
    by_cases k1 : key a < key b
    · rw [if_pos (by simpa using k1)]; omega
    · rw [if_neg (by simpa using k1)]
      by_cases k2 : key b < key a
      · rw [if_pos (by simpa using k2)]; omega
      · rw [if_neg (by simpa using k2)]; omega
  · first | omega | (simp; omega)
  · first | omega | (simp; omega)
  · first | omega | simp
set_option maxHeartbeats 400000 in
theorem MetricWeights_walk (f : Nat) (w : World) (hf : f < 18446744073709551616) : Calls Try.prog 3 #[.float .f64 f] w fun e w' => e = .returned (.bool true) ∧ Below w.heap.size w w' := by
  go_enter Try.func3, Try.ntmps3
  go_wp2_with (first | (go_at_call 12; refine (weight_any _ hf _).mono ?_; rintro e w' ⟨rfl, rfl⟩) | (go_at_call 13; refine (rweight_any _ hf _).mono ?_; rintro e w' ⟨rfl, rfl⟩) | (go_at_call 14; refine (awake_any _).mono ?_; rintro e w' ⟨rfl, n, rfl⟩))
  go_ret
  exact ⟨rfl, below_drewN (Below.refl _ _) _⟩
set_option maxHeartbeats 400000 in
theorem MetricLimits_walk (f : Nat) (w : World) (hf : f < 18446744073709551616) : Calls Try.prog 5 #[.float .f64 f] w fun e w' => e = .returned (.bool true) ∧ Below w.heap.size w w' := by
  go_enter Try.func5, Try.ntmps5
  go_wp2_with (first | (go_at_call 18; refine (limit_any _ hf _).mono ?_; rintro e w' ⟨rfl, rfl⟩) | (go_at_call 19; refine (rlimit_any _ hf _).mono ?_; rintro e w' ⟨rfl, rfl⟩) | (go_at_call 14; refine (awake_any _).mono ?_; rintro e w' ⟨rfl, n, rfl⟩))
  go_ret
  exact ⟨rfl, below_drewN (Below.refl _ _) _⟩
set_option maxHeartbeats 400000 in
theorem MetricDists_walk (d m : Nat) (w : World) (hd : d < 18446744073709551616) (hm : m < 18446744073709551616) : Calls Try.prog 6 #[.float .f64 d, .float .f64 m] w fun e w' => e = .returned (.bool true) ∧ Below w.heap.size w w' := by
  go_enter Try.func6, Try.ntmps6
  go_wp2_with (first | (go_at_call 20; refine (dist_any _ _ hd hm _).mono ?_; rintro e w' ⟨rfl, rfl⟩) | (go_at_call 21; refine (rdist_any _ _ hd hm _).mono ?_; rintro e w' ⟨rfl, rfl⟩) | (go_at_call 14; refine (awake_any _).mono ?_; rintro e w' ⟨rfl, n, rfl⟩))
  go_ret
  exact ⟨rfl, below_drewN (Below.refl _ _) _⟩
set_option maxHeartbeats 400000 in
theorem MetricCompares_walk (a b : Nat) (w : World) (_ha : a < 18446744073709551616) (_hb : b < 18446744073709551616) : Calls Try.prog 7 #[.float .f64 a, .float .f64 b] w fun e w' => e = .returned (.bool true) ∧ Below w.heap.size w w' := by
  go_enter Try.func7, Try.ntmps7
  go_wp2_with (first | (go_at_call 22; refine (compare_any _ _ _).mono ?_; rintro e w' ⟨rfl, rfl⟩) | (go_at_call 23; refine (rcompare_any _ _ _).mono ?_; rintro e w' ⟨rfl, rfl⟩) | (go_at_call 14; refine (awake_any _).mono ?_; rintro e w' ⟨rfl, n, rfl⟩))
  go_ret
  exact ⟨rfl, below_drewN (Below.refl _ _) _⟩
set_option maxHeartbeats 400000 in
theorem MetricAdds_walk (x d m : Nat) (w : World) (_hx : x < 18446744073709551616) (_hd : d < 18446744073709551616) (_hm : m < 18446744073709551616) : Calls Try.prog 4 #[.float .f64 x, .float .f64 d, .float .f64 m] w fun e w' => e = .returned (.bool true) ∧ Below w.heap.size w w' := by
  go_enter Try.func4, Try.ntmps4
  go_wp2_with (first | (go_at_call 16; refine (add_any _ _ _ _).mono ?_; rintro e w' ⟨rfl, n, rfl⟩) | (go_at_call 17; refine (radd_any _ _ _ _).mono ?_; rintro e w' ⟨rfl, n, rfl⟩) | (go_at_call 15; refine (same_any _ _ _).mono ?_; rintro e w' ⟨rfl, rfl⟩) | (go_at_call 14; refine (awake_any _).mono ?_; rintro e w' ⟨rfl, n, rfl⟩))
  go_ret
  exact ⟨rfl, below_drewN (Below.refl _ _) _⟩
set_option maxHeartbeats 400000 in
theorem MetricOrders_walk (a b c : Nat) (w : World) (_ha : a < 18446744073709551616) (_hb : b < 18446744073709551616) (_hc : c < 18446744073709551616) : Calls Try.prog 8 #[.float .f64 a, .float .f64 b, .float .f64 c] w fun e w' => e = .returned (.bool true) ∧ Below w.heap.size w w' := by
  have p1 := cmpI_place a b
  have p2 := cmpI_place b c
  have p3 := cmpI_place a c
  have b1 := cmpI_bd a b
  have b2 := cmpI_bd b c
  have b3 := cmpI_bd a c
  have e0 := cmpI_self a
  have e1 := cmpI_swap a b
  have e1' : -cmpI a b = 0 - cmpI a b := by omega
  rw [e1'] at e1
  have hno1 : ¬ (cmpI a b ≤ 0 ∧ cmpI b c ≤ 0 ∧ 0 < cmpI a c) := by omega
  have hno2 : ¬ (cmpI a b < 0 ∧ cmpI b c ≤ 0 ∧ 0 ≤ cmpI a c) := by omega
  clear p1 p2 p3 e1'
  go_enter Try.func8, Try.ntmps8
  go_wp2_with (first | (go_at_call 22; refine (compare_any _ _ _).mono ?_; rintro e w' ⟨rfl, rfl⟩) | (go_at_call 14; refine (awake_any _).mono ?_; rintro e w' ⟨rfl, n, rfl⟩))
  all_goals
    go_ret
    exact ⟨rfl, below_drewN (Below.refl _ _) _⟩

end Go.Proofs.Ytcpbanekjncekaa
