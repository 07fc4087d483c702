/- The contracts of the metric layer's functions, program and reference: each returns what one plain function of the bits says. Conditions: the words fit 64 bits; a limit that is compared is no NaN where a theorem says so. -/
import Derived.Test.YtcpbanekjncekaaDoorLeaf
namespace Go.Proofs.YtcpbanekjncekaaDoor
open Go.RowKit Flt

set_option maxHeartbeats 400000 in
theorem within_any (f m : Nat) (hf : f < 18446744073709551616) (w : World) : Calls Tryd.prog 36 #[.float .f64 f, .float .f64 m] w fun e w' => e = .returned (.int .i64 (withinI f m)) ∧ w' = w := by
  go_enter Tryd.func36, Tryd.ntmps36
  go_wp2_with (first | (go_at_call 27; refine (isnan_any _ _).mono ?_; rintro e w' ⟨rfl, rfl⟩) | (go_at_call 14; refine (isinf0_any _ _ hf).mono ?_; rintro e w' ⟨rfl, rfl⟩) | (go_at_call 28; refine (signbit_any _ _ hf).mono ?_; rintro e w' ⟨rfl, rfl⟩) | (go_at_call 29; refine (quarter_any _ _ (by assumption) (by assumption)).mono ?_; rintro e w' ⟨rfl, rfl⟩))
  all_goals
    go_ret
    refine ⟨ret_int ?_, rfl⟩
    unfold withinI
    first | (simp [*]; done) | (cases hq : quarterB f <;> simp_all)
set_option maxHeartbeats 400000 in
theorem weight_any (f : Nat) (hf : f < 18446744073709551616) (w : World) : Calls Tryd.prog 19 #[.float .f64 f] w fun e w' => e = .returned (.int .i64 (withinI f 4697254411347427328)) ∧ w' = w := by
  go_enter Tryd.func19, Tryd.ntmps19
  go_wp2_with (go_at_call 36; refine (within_any _ _ hf _).mono ?_; rintro e w' ⟨rfl, rfl⟩)
  go_ret
  exact ⟨rfl, rfl⟩
end Go.Proofs.YtcpbanekjncekaaDoor
