/- More contracts of the metric layer: Dist, Compare, Add, and that the layer answers at all. Conditions: the words fit 64 bits. -/
import Derived.Test.YtcpbanekjncekaaDoorMet
namespace Go.Proofs.YtcpbanekjncekaaDoor
open Go.RowKit Flt

set_option maxHeartbeats 400000 in
theorem add_any (x d m : Nat) (w : World) : Calls Tryd.prog 20 #[.float .f64 x, .float .f64 d, .float .f64 m] w fun e w' => e = .returned (.float .f64 (addF x d m)) ∧ ∃ n, w' = w.drewN n := by
  cases hs : Ieee.double.add x d with
  | none =>
    have hop : ∀ t w, (binOp .add t (.float .f64 x) (.float .f64 d)).run Tryd.prog w = .ok (.float .f64 (nanOf w x d)) w.drew := fun t w => run_float_nan w .add (.inl rfl) t x d hs
    have hn := nanOf_nan
    have hf := frombits_ext
    have HS := Lib.hid hs
    clear hs
    go_enter Tryd.func20, Tryd.ntmps20
    go_wp2_with (first | (go_at_call 27; refine (isnan_any _ _).mono ?_; rintro e w' ⟨rfl, rfl⟩) | (go_at_call 21; refine (inf1_any _).mono ?_; rintro e w' ⟨rfl, rfl⟩))
    go_ret
    refine ⟨ret_float ?_, 1, rfl⟩
    unfold addF
    rw [HS.out]
    try rfl
  | some s =>
    have hop : ∀ t w, (binOp .add t (.float .f64 x) (.float .f64 d)).run Tryd.prog w = .ok (.float .f64 s) w := fun t w => run_float_arith w .add t .f64 x d s hs
    have hn := add_notnan hs
    have HS := Lib.hid hs
    clear hs
    go_enter Tryd.func20, Tryd.ntmps20
    go_wp2_with (first | (go_at_call 27; refine (isnan_any _ _).mono ?_; rintro e w' ⟨rfl, rfl⟩) | (go_at_call 21; refine (inf1_any _).mono ?_; rintro e w' ⟨rfl, rfl⟩))
    all_goals
      go_ret
      refine ⟨ret_float ?_, 0, rfl⟩
      unfold addF
      rw [HS.out]
      simp only
      first | (simp [*]; done) | (cases hq : flt s m <;> simp_all; done) | (cases hq : feq s 0 <;> simp_all)
set_option maxHeartbeats 400000 in
theorem awake_any (w : World) : Calls Tryd.prog 10 #[] w fun e w' => e = .returned (.bool true) ∧ ∃ n, w' = w.drewN n := by
  have a1 : withinI 4609434218613702656 4697254411347427328 = 0 := by decide +kernel
  have a2 : withinI 4602678819172646912 4697254411347427328 = 13 := by decide +kernel
  have a3 : addF 4608308318706860032 4612811918334230528 4621819117588971520 = 4615626668101337088 := by decide +kernel
  have a4 : feq 4615626668101337088 4615626668101337088 = true := by decide +kernel
  go_enter Tryd.func10, Tryd.ntmps10
  go_wp2_with (first | (go_at_call 19; refine (weight_any _ (by decide) _).mono ?_; rintro e w' ⟨rfl, rfl⟩) | (go_at_call 20; refine (add_any _ _ _ _).mono ?_; rintro e w' ⟨rfl, n, rfl⟩))
  go_ret
  exact ⟨rfl, n, rfl⟩

end Go.Proofs.YtcpbanekjncekaaDoor
