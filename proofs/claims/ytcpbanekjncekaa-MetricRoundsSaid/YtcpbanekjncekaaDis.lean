/- More contracts of the metric layer: Dist, Compare, Add, and that the layer answers at all. Conditions: the words fit 64 bits. -/
import Derived.Test.YtcpbanekjncekaaMet
namespace Go.Proofs.Ytcpbanekjncekaa
open Go.RowKit Flt

theorem limit_any_ok (m : Nat) (hm : m < 18446744073709551616) (h0 : withinI m 4742290407621132288 = 0) (w : World) : Calls Try.prog 18 #[.float .f64 m] w fun e w' => e = .returned (.int .i64 0) ∧ w' = w :=
  (limit_any m hm w).mono fun e w' h => by rw [h0] at h; exact h
set_option maxHeartbeats 400000 in
theorem dist_any (d m : Nat) (hd : d < 18446744073709551616) (hm : m < 18446744073709551616) (w : World) : Calls Try.prog 20 #[.float .f64 d, .float .f64 m] w fun e w' => e = .returned (.int .i64 (distI d m)) ∧ w' = w := by
  by_cases h0 : withinI m 4742290407621132288 = 0
  · have hmn := (withinI_zero h0).1
    cases hn : isnan d
    · cases hs : sgn d
      · have hge := ge_not_lt hn hmn
        have hpi := isPinf_eq hs
        have H0 := Lib.hid h0
        clear h0
        go_enter Try.func20, Try.ntmps20
        go_wp2_with (first | (go_at_call 18; refine (limit_any_ok _ hm H0.out _).mono ?_; rintro e w' ⟨rfl, rfl⟩) | (go_at_call 31; refine (isnan_any _ _).mono ?_; rintro e w' ⟨rfl, rfl⟩) | (go_at_call 36; refine (signbit_any _ _ hd).mono ?_; rintro e w' ⟨rfl, rfl⟩) | (go_at_call 37; refine (isinf1_any _ _).mono ?_; rintro e w' ⟨rfl, rfl⟩) | (go_at_call 38; refine (quarter_any _ _ (by assumption) (by assumption)).mono ?_; rintro e w' ⟨rfl, rfl⟩))
        all_goals
          go_ret
          refine ⟨ret_int ?_, rfl⟩
          have h0 := H0.out
          unfold distI
          rw [if_pos h0, hn, hs, hpi]
          first | (simp [*]; done) | (cases hq : quarterB d <;> simp_all; done) | (cases hq : flt d m <;> simp_all)
      · have H0 := Lib.hid h0
        clear h0
        go_enter Try.func20, Try.ntmps20
        go_wp2_with (first | (go_at_call 18; refine (limit_any_ok _ hm H0.out _).mono ?_; rintro e w' ⟨rfl, rfl⟩) | (go_at_call 31; refine (isnan_any _ _).mono ?_; rintro e w' ⟨rfl, rfl⟩) | (go_at_call 36; refine (signbit_any _ _ hd).mono ?_; rintro e w' ⟨rfl, rfl⟩) | (go_at_call 37; refine (isinf1_any _ _).mono ?_; rintro e w' ⟨rfl, rfl⟩) | (go_at_call 38; refine (quarter_any _ _ (by assumption) (by assumption)).mono ?_; rintro e w' ⟨rfl, rfl⟩))
        go_ret
        refine ⟨ret_int ?_, rfl⟩
        have h0 := H0.out
        unfold distI
        rw [if_pos h0, hn, hs]
        rfl
    · have H0 := Lib.hid h0
      clear h0
      go_enter Try.func20, Try.ntmps20
      go_wp2_with (first | (go_at_call 18; refine (limit_any_ok _ hm H0.out _).mono ?_; rintro e w' ⟨rfl, rfl⟩) | (go_at_call 31; refine (isnan_any _ _).mono ?_; rintro e w' ⟨rfl, rfl⟩) | (go_at_call 36; refine (signbit_any _ _ hd).mono ?_; rintro e w' ⟨rfl, rfl⟩) | (go_at_call 37; refine (isinf1_any _ _).mono ?_; rintro e w' ⟨rfl, rfl⟩) | (go_at_call 38; refine (quarter_any _ _ (by assumption) (by assumption)).mono ?_; rintro e w' ⟨rfl, rfl⟩))
      go_ret
      refine ⟨ret_int ?_, rfl⟩
      have h0 := H0.out
      unfold distI
      rw [if_pos h0, hn]
      rfl
  · have hb := withinI_bd m 4742290407621132288
    have hne : (withinI m 4742290407621132288 == 0) = false := by simp; omega
    have hnb : (withinI m 4742290407621132288 != 0) = true := by simp; omega
    go_enter Try.func20, Try.ntmps20
    go_wp2_with (go_at_call 18; refine (limit_any _ hm _).mono ?_; rintro e w' ⟨rfl, rfl⟩)
    go_ret
    refine ⟨ret_int ?_, rfl⟩
    unfold distI
    rw [if_neg h0]
theorem rlimit_any_ok (m : Nat) (hm : m < 18446744073709551616) (h0 : withinI m 4742290407621132288 = 0) (w : World) : Calls Try.prog 19 #[.float .f64 m] w fun e w' => e = .returned (.int .i64 0) ∧ w' = w :=
  (rlimit_any m hm w).mono fun e w' h => by rw [h0] at h; exact h
set_option maxHeartbeats 400000 in
theorem rdist_any (d m : Nat) (hd : d < 18446744073709551616) (hm : m < 18446744073709551616) (w : World) : Calls Try.prog 21 #[.float .f64 d, .float .f64 m] w fun e w' => e = .returned (.int .i64 (distI d m)) ∧ w' = w := by
  by_cases h0 : withinI m 4742290407621132288 = 0
  · have hmn := (withinI_zero h0).1
    cases hn : isnan d
    · cases hs : sgn d
      · have hge := ge_not_lt hn hmn
        have hpi := isPinf_eq hs
        have H0 := Lib.hid h0
        clear h0
        go_enter Try.func21, Try.ntmps21
        go_wp2_with (first | (go_at_call 19; refine (rlimit_any_ok _ hm H0.out _).mono ?_; rintro e w' ⟨rfl, rfl⟩) | (go_at_call 34; refine (rnan_any _ _).mono ?_; rintro e w' ⟨rfl, rfl⟩) | (go_at_call 39; refine (rsign_any _ _ hd).mono ?_; rintro e w' ⟨rfl, rfl⟩) | (go_at_call 40; refine (rinf_any _ _).mono ?_; rintro e w' ⟨rfl, rfl⟩) | (go_at_call 41; refine (rquarter_any _ _ (by assumption) (by assumption)).mono ?_; rintro e w' ⟨rfl, rfl⟩))
        all_goals
          go_ret
          refine ⟨ret_int ?_, rfl⟩
          have h0 := H0.out
          unfold distI
          rw [if_pos h0, hn, hs, hpi]
          first | (simp [*]; done) | (cases hq : quarterB d <;> simp_all; done) | (cases hq : flt d m <;> simp_all)
      · have H0 := Lib.hid h0
        clear h0
        go_enter Try.func21, Try.ntmps21
        go_wp2_with (first | (go_at_call 19; refine (rlimit_any_ok _ hm H0.out _).mono ?_; rintro e w' ⟨rfl, rfl⟩) | (go_at_call 34; refine (rnan_any _ _).mono ?_; rintro e w' ⟨rfl, rfl⟩) | (go_at_call 39; refine (rsign_any _ _ hd).mono ?_; rintro e w' ⟨rfl, rfl⟩) | (go_at_call 40; refine (rinf_any _ _).mono ?_; rintro e w' ⟨rfl, rfl⟩) | (go_at_call 41; refine (rquarter_any _ _ (by assumption) (by assumption)).mono ?_; rintro e w' ⟨rfl, rfl⟩))
        go_ret
        refine ⟨ret_int ?_, rfl⟩
        have h0 := H0.out
        unfold distI
        rw [if_pos h0, hn, hs]
        rfl
    · have H0 := Lib.hid h0
      clear h0
      go_enter Try.func21, Try.ntmps21
      go_wp2_with (first | (go_at_call 19; refine (rlimit_any_ok _ hm H0.out _).mono ?_; rintro e w' ⟨rfl, rfl⟩) | (go_at_call 34; refine (rnan_any _ _).mono ?_; rintro e w' ⟨rfl, rfl⟩) | (go_at_call 39; refine (rsign_any _ _ hd).mono ?_; rintro e w' ⟨rfl, rfl⟩) | (go_at_call 40; refine (rinf_any _ _).mono ?_; rintro e w' ⟨rfl, rfl⟩) | (go_at_call 41; refine (rquarter_any _ _ (by assumption) (by assumption)).mono ?_; rintro e w' ⟨rfl, rfl⟩))
      go_ret
      refine ⟨ret_int ?_, rfl⟩
      have h0 := H0.out
      unfold distI
      rw [if_pos h0, hn]
      rfl
  · have hb := withinI_bd m 4742290407621132288
    have hne : (withinI m 4742290407621132288 == 0) = false := by simp; omega
    have hnb : (withinI m 4742290407621132288 != 0) = true := by simp; omega
    go_enter Try.func21, Try.ntmps21
    go_wp2_with (go_at_call 19; refine (rlimit_any _ hm _).mono ?_; rintro e w' ⟨rfl, rfl⟩)
    go_ret
    refine ⟨ret_int ?_, rfl⟩
    unfold distI
    rw [if_neg h0]
set_option maxHeartbeats 400000 in
theorem ccmp_any (a b : Nat) (ha : isnan a = false) (hb : isnan b = false) (w : World) : Calls Try.prog 42 #[.float .f64 a, .float .f64 b] w fun e w' => e = .returned (.int .i64 (cmpI a b)) ∧ w' = w := by
  go_enter Try.func42, Try.ntmps42
  go_wp2_with (go_at_call 48; refine (cisnan_any _ _).mono ?_; rintro e w' ⟨rfl, rfl⟩)
  all_goals
    go_ret
    refine ⟨ret_int ?_, rfl⟩
    unfold cmpI
    simp [*]
set_option maxHeartbeats 400000 in
theorem compare_any (a b : Nat) (w : World) : Calls Try.prog 22 #[.float .f64 a, .float .f64 b] w fun e w' => e = .returned (.int .i64 (cmpI a b)) ∧ w' = w := by
  cases ha : isnan a <;> cases hb : isnan b
  all_goals
    go_enter Try.func22, Try.ntmps22
    go_wp2_with (first | (go_at_call 31; refine (isnan_any _ _).mono ?_; rintro e w' ⟨rfl, rfl⟩) | (go_at_call 42; refine (ccmp_any _ _ ha hb _).mono ?_; rintro e w' ⟨rfl, rfl⟩))
    go_ret
    refine ⟨ret_int ?_, rfl⟩
    first | rfl | (unfold cmpI; rw [ha, hb]; rfl)
set_option maxHeartbeats 400000 in
theorem rcompare_any (a b : Nat) (w : World) : Calls Try.prog 23 #[.float .f64 a, .float .f64 b] w fun e w' => e = .returned (.int .i64 (cmpI a b)) ∧ w' = w := by
  cases ha : isnan a <;> cases hb : isnan b
  all_goals
    go_enter Try.func23, Try.ntmps23
    go_wp2_with (go_at_call 34; refine (rnan_any _ _).mono ?_; rintro e w' ⟨rfl, rfl⟩)
    all_goals
      go_ret
      refine ⟨ret_int ?_, rfl⟩
      unfold cmpI; simp [*]
set_option maxHeartbeats 400000 in
theorem add_any (x d m : Nat) (w : World) : Calls Try.prog 16 #[.float .f64 x, .float .f64 d, .float .f64 m] w fun e w' => e = .returned (.float .f64 (addF x d m)) ∧ ∃ n, w' = w.drewN n := by
  cases hs : Ieee.double.add x d with
  | none =>
    have hop : ∀ t w, (binOp .add t (.float .f64 x) (.float .f64 d)).run Try.prog w = .ok (.float .f64 (nanOf w x d)) w.drew := fun t w => run_float_nan w .add (.inl rfl) t x d hs
    have hn := nanOf_nan
    have hf := frombits_ext
    have HS := Lib.hid hs
    clear hs
    go_enter Try.func16, Try.ntmps16
    go_wp2_with (first | (go_at_call 31; refine (isnan_any _ _).mono ?_; rintro e w' ⟨rfl, rfl⟩) | (go_at_call 33; refine (inf1_any _).mono ?_; rintro e w' ⟨rfl, rfl⟩))
    go_ret
    refine ⟨ret_float ?_, 1, rfl⟩
    unfold addF
    rw [HS.out]
    try rfl
  | some s =>
    have hop : ∀ t w, (binOp .add t (.float .f64 x) (.float .f64 d)).run Try.prog w = .ok (.float .f64 s) w := fun t w => run_float_arith w .add t .f64 x d s hs
    have hn := add_notnan hs
    have HS := Lib.hid hs
    clear hs
    go_enter Try.func16, Try.ntmps16
    go_wp2_with (first | (go_at_call 31; refine (isnan_any _ _).mono ?_; rintro e w' ⟨rfl, rfl⟩) | (go_at_call 33; refine (inf1_any _).mono ?_; rintro e w' ⟨rfl, rfl⟩))
    all_goals
      go_ret
      refine ⟨ret_float ?_, 0, rfl⟩
      unfold addF
      rw [HS.out]
      simp only
      first | (simp [*]; done) | (cases hq : flt s m <;> simp_all; done) | (cases hq : feq s 0 <;> simp_all)
set_option maxHeartbeats 400000 in
theorem radd_any (x d m : Nat) (w : World) : Calls Try.prog 17 #[.float .f64 x, .float .f64 d, .float .f64 m] w fun e w' => e = .returned (.float .f64 (addF x d m)) ∧ ∃ n, w' = w.drewN n := by
  cases hs : Ieee.double.add x d with
  | none =>
    have hop : ∀ t w, (binOp .add t (.float .f64 x) (.float .f64 d)).run Try.prog w = .ok (.float .f64 (nanOf w x d)) w.drew := fun t w => run_float_nan w .add (.inl rfl) t x d hs
    have hn := nanOf_nan
    have hf := frombits_ext
    have HS := Lib.hid hs
    clear hs
    go_enter Try.func17, Try.ntmps17
    go_wp2_with (first | (go_at_call 34; refine (rnan_any _ _).mono ?_; rintro e w' ⟨rfl, rfl⟩) | (go_at_call 35; refine (rNan_any _).mono ?_; rintro e w' ⟨rfl, rfl⟩) | (go_at_call 33; refine (inf1_any _).mono ?_; rintro e w' ⟨rfl, rfl⟩))
    go_ret
    refine ⟨ret_float ?_, 1, rfl⟩
    unfold addF
    rw [HS.out]
    try rfl
  | some s =>
    have hop : ∀ t w, (binOp .add t (.float .f64 x) (.float .f64 d)).run Try.prog w = .ok (.float .f64 s) w := fun t w => run_float_arith w .add t .f64 x d s hs
    have hn := add_notnan hs
    have HS := Lib.hid hs
    clear hs
    go_enter Try.func17, Try.ntmps17
    go_wp2_with (first | (go_at_call 34; refine (rnan_any _ _).mono ?_; rintro e w' ⟨rfl, rfl⟩) | (go_at_call 35; refine (rNan_any _).mono ?_; rintro e w' ⟨rfl, rfl⟩) | (go_at_call 33; refine (inf1_any _).mono ?_; rintro e w' ⟨rfl, rfl⟩))
    all_goals
      go_ret
      refine ⟨ret_float ?_, 0, rfl⟩
      unfold addF
      rw [HS.out]
      simp only
      first | (simp [*]; done) | (cases hq : flt s m <;> simp_all; done) | (cases hq : feq s 0 <;> simp_all)
set_option maxHeartbeats 400000 in
theorem awake_any (w : World) : Calls Try.prog 14 #[] w fun e w' => e = .returned (.bool true) ∧ ∃ n, w' = w.drewN n := by
  have a1 : withinI 4609434218613702656 4697254411347427328 = 0 := by decide +kernel
  have a2 : withinI 4602678819172646912 4697254411347427328 = 13 := by decide +kernel
  have a3 : addF 4608308318706860032 4612811918334230528 4621819117588971520 = 4615626668101337088 := by decide +kernel
  have a4 : feq 4615626668101337088 4615626668101337088 = true := by decide +kernel
  go_enter Try.func14, Try.ntmps14
  go_wp2_with (first | (go_at_call 12; refine (weight_any _ (by decide) _).mono ?_; rintro e w' ⟨rfl, rfl⟩) | (go_at_call 16; refine (add_any _ _ _ _).mono ?_; rintro e w' ⟨rfl, n, rfl⟩))
  go_ret
  exact ⟨rfl, n, rfl⟩

end Go.Proofs.Ytcpbanekjncekaa
