/- The contracts of the metric layer's functions, program and reference: each returns what one plain function of the bits says. Conditions: the words fit 64 bits; a limit that is compared is no NaN where a theorem says so. -/
import Derived.Test.YtgmljlgoaifneaaLeaf
namespace Go.Proofs.Ytgmljlgoaifneaa
open Go.RowKit Flt

set_option maxHeartbeats 400000 in
theorem within_any (f m : Nat) (hf : f < 18446744073709551616) (w : World) : Calls Try.prog 48 #[.float .f64 f, .float .f64 m] w fun e w' => e = .returned (.int .i64 (withinI f m)) ∧ w' = w := by
  go_enter Try.func48, Try.ntmps48
  go_wp2_with (first | (go_at_call 58; refine (isnan_any _ _).mono ?_; rintro e w' ⟨rfl, rfl⟩) | (go_at_call 59; refine (isinf0_any _ _ hf).mono ?_; rintro e w' ⟨rfl, rfl⟩) | (go_at_call 60; refine (signbit_any _ _ hf).mono ?_; rintro e w' ⟨rfl, rfl⟩) | (go_at_call 61; refine (quarter_any _ _ (by assumption) (by assumption)).mono ?_; rintro e w' ⟨rfl, rfl⟩))
  all_goals
    go_ret
    refine ⟨ret_int ?_, rfl⟩
    unfold withinI
    first | (simp [*]; done) | (cases hq : quarterB f <;> simp_all)
set_option maxHeartbeats 400000 in
theorem bounded_any (f m : Nat) (hf : f < 18446744073709551616) (w : World) : Calls Try.prog 49 #[.float .f64 f, .float .f64 m] w fun e w' => e = .returned (.int .i64 (withinI f m)) ∧ w' = w := by
  go_enter Try.func49, Try.ntmps49
  go_wp2_with (first | (go_at_call 62; refine (rnan_any _ _).mono ?_; rintro e w' ⟨rfl, rfl⟩) | (go_at_call 63; refine (rinf_any _ _).mono ?_; rintro e w' ⟨rfl, rfl⟩) | (go_at_call 64; refine (rsign_any _ _ hf).mono ?_; rintro e w' ⟨rfl, rfl⟩) | (go_at_call 65; refine (rquarter_any _ _ (by assumption) (by assumption)).mono ?_; rintro e w' ⟨rfl, rfl⟩))
  all_goals
    go_ret
    refine ⟨ret_int ?_, rfl⟩
    unfold withinI
    first | (simp [*]; done) | (cases hq : quarterB f <;> simp_all)
set_option maxHeartbeats 400000 in
theorem weight_any (f : Nat) (hf : f < 18446744073709551616) (w : World) : Calls Try.prog 29 #[.float .f64 f] w fun e w' => e = .returned (.int .i64 (withinI f 4697254411347427328)) ∧ w' = w := by
  go_enter Try.func29, Try.ntmps29
  go_wp2_with (go_at_call 48; refine (within_any _ _ hf _).mono ?_; rintro e w' ⟨rfl, rfl⟩)
  go_ret
  exact ⟨rfl, rfl⟩
set_option maxHeartbeats 400000 in
theorem rweight_any (f : Nat) (hf : f < 18446744073709551616) (w : World) : Calls Try.prog 32 #[.float .f64 f] w fun e w' => e = .returned (.int .i64 (withinI f 4697254411347427328)) ∧ w' = w := by
  go_enter Try.func32, Try.ntmps32
  go_wp2_with (go_at_call 49; refine (bounded_any _ _ hf _).mono ?_; rintro e w' ⟨rfl, rfl⟩)
  go_ret
  exact ⟨rfl, rfl⟩
end Go.Proofs.Ytgmljlgoaifneaa
