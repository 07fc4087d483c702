/- The walks of Round, program and reference, and of the law. Conditions: the word fits 64 bits. -/
import Derived.Test.YtcpbanekjncekaaWal
import Derived.Test.YtcpbanekjncekaaMod
namespace Go.Proofs.Ytcpbanekjncekaa
open Go.RowKit Flt

set_option maxHeartbeats 800000 in
theorem round_any (f : Nat) (hf : f < 18446744073709551616) (w : World) : Calls Try.prog 26 #[.float .f64 f] w fun e w' => e = .returned (.tuple #[.float .f64 (rW f), .int .i64 (rE f)]) ∧ w' = w := by
  cases hn : isnan f
  · cases h1 : (flt f 4607182418800017408 || feq f 4607182418800017408)
    · cases h2 : (fgt f 4697254411347427328 || feq f 4697254411347427328)
      · obtain ⟨h1a, h1b⟩ := Bool.or_eq_false_iff.1 h1
        obtain ⟨h2a, h2b⟩ := Bool.or_eq_false_iff.1 h2
        have hm := mid_of hf hn h1a h2a
        obtain ⟨c, c1, c2, c3, c4, c5⟩ := hm.four
        have he := hm.even c3 c4 c5
        have hb := hm.qn_bd
        obtain ⟨d, d1, d2⟩ := he.div4 (by omega)
        have hcn : isnan c = false := by rw [nan_rung']; unfold infR at c3; omega
        have hop : ∀ t w, (binOp .mul t (.float .f64 f) (.float .f64 4616189618054758400)).run Try.prog w = .ok (.float .f64 c) w := fun t w => run_float_arith w .mul t .f64 _ _ _ c1
        have hop2 : ∀ t w, (binOp .quo t (.float .f64 (rteW c)) (.float .f64 4616189618054758400)).run Try.prog w = .ok (.float .f64 d) w := fun t w => run_float_arith w .quo t .f64 _ _ _ d1
        have hex := rte_ext c hcn
        have R1 : Hid (rW f = d) := Lib.hid (by rw [d2.toQf, rW_ref hf hn h1a h2a])
        have R2 : Hid (rE f = 0) := Lib.hid (by unfold rE; rw [hn]; rfl)
        clear h1a h1b h2a h2b hm c1 c2 c3 c4 c5 he hb d1 d2 hcn
        go_enter Try.func26, Try.ntmps26
        go_wp2_with (go_at_call 31; refine (isnan_any _ _).mono ?_; rintro e w' ⟨rfl, rfl⟩)
        go_ret2
        exact ⟨ret_fi R1.out.symm R2.out.symm, rfl⟩
      · have R1 : Hid (rW f = 4697254411347427328) := Lib.hid (by unfold rW; rw [hn, h1, h2]; rfl)
        have R2 : Hid (rE f = 0) := Lib.hid (by unfold rE; rw [hn]; rfl)
        go_enter Try.func26, Try.ntmps26
        go_wp2_with (go_at_call 31; refine (isnan_any _ _).mono ?_; rintro e w' ⟨rfl, rfl⟩)
        go_ret2
        exact ⟨ret_fi R1.out.symm R2.out.symm, rfl⟩
    · have R1 : Hid (rW f = 4607182418800017408) := Lib.hid (by unfold rW; rw [hn, h1]; rfl)
      have R2 : Hid (rE f = 0) := Lib.hid (by unfold rE; rw [hn]; rfl)
      go_enter Try.func26, Try.ntmps26
      go_wp2_with (go_at_call 31; refine (isnan_any _ _).mono ?_; rintro e w' ⟨rfl, rfl⟩)
      go_ret2
      exact ⟨ret_fi R1.out.symm R2.out.symm, rfl⟩
  · have R1 : Hid (rW f = 0) := Lib.hid (by unfold rW; rw [hn]; rfl)
    have R2 : Hid (rE f = 10) := Lib.hid (by unfold rE; rw [hn]; rfl)
    go_enter Try.func26, Try.ntmps26
    go_wp2_with (go_at_call 31; refine (isnan_any _ _).mono ?_; rintro e w' ⟨rfl, rfl⟩)
    go_ret2
    exact ⟨ret_fi R1.out.symm R2.out.symm, rfl⟩
set_option maxRecDepth 100000 in
set_option maxHeartbeats 1600000 in
theorem rround_any (f : Nat) (hf : f < 18446744073709551616) (w : World) : Calls Try.prog 27 #[.float .f64 f] w fun e w' => e = .returned (.tuple #[.float .f64 (rW f), .int .i64 (rE f)]) ∧ w' = w := by
  cases hn : isnan f
  · cases h1 : flt f 4607182418800017408
    · cases h2 : fgt f 4697254411347427328
      · have hm := mid_of hf hn h1 h2
        obtain ⟨c, c1, c2, c3, c4, c5⟩ := hm.four
        have hfl := hm.floor c3 c4 c5
        have hb := hm.qq_bd
        obtain ⟨lo, d1, d2⟩ := hfl.div4 (by omega)
        obtain ⟨hi, e1, e2⟩ := d2.add quart_isQ (by omega)
        obtain ⟨x1, x2, x3, x4, x5⟩ := hm.below d2
        obtain ⟨y1, y2, y3, y4, y5⟩ := hm.above e2
        obtain ⟨g1, g2⟩ := hm.choice x3 y3 x4 y4 x5 y5
        obtain ⟨lo4, z1, z2⟩ : ∃ q, Ieee.double.mul lo 4616189618054758400 = some q ∧ IsQ q (4 * (qq f : Int)) := by
          obtain ⟨r, r1, r2⟩ := rungQ (4 * qq f) (by omega)
          refine ⟨Flt.mk false r, ?_, ?_⟩
          · have := mul_exact d2.fin four_isQ.fin r (by omega) (by rw [d2.val, four_isQ.val, r2, K_Q1, show (16 : Int).natAbs = 4 * 4 from rfl, Int.natAbs_natCast]; simp only [Nat.mul_assoc, Nat.mul_left_comm, Nat.mul_comm])
            rw [this, d2.sg, four_isQ.sg, decide_eq_false (by omega)]; rfl
          · have := isQ_mk (n := 4 * (qq f : Int)) r1 (by rw [r2, show (4 * (qq f : Int)).natAbs = 4 * qq f by omega])
            rwa [decide_eq_false (by omega)] at this
        have hcn : isnan c = false := by rw [nan_rung']; unfold infR at c3; omega
        have hop : ∀ t w, (binOp .mul t (.float .f64 f) (.float .f64 4616189618054758400)).run Try.prog w = .ok (.float .f64 c) w := fun t w => run_float_arith w .mul t .f64 _ _ _ c1
        have hop2 : ∀ t w, (binOp .quo t (.float .f64 (floorW c)) (.float .f64 4616189618054758400)).run Try.prog w = .ok (.float .f64 lo) w := fun t w => run_float_arith w .quo t .f64 _ _ _ d1
        have hop3 : ∀ t w, (binOp .add t (.float .f64 lo) (.float .f64 4598175219545276416)).run Try.prog w = .ok (.float .f64 hi) w := fun t w => run_float_arith w .add t .f64 _ _ _ e1
        have hop4 : ∀ t w, (binOp .sub t (.float .f64 f) (.float .f64 lo)).run Try.prog w = .ok (.float .f64 x1) w := fun t w => run_float_arith w .sub t .f64 _ _ _ x2
        have hop5 : ∀ t w, (binOp .sub t (.float .f64 hi) (.float .f64 f)).run Try.prog w = .ok (.float .f64 y1) w := fun t w => run_float_arith w .sub t .f64 _ _ _ y2
        have hop6 : ∀ t w, (binOp .mul t (.float .f64 lo) (.float .f64 4616189618054758400)).run Try.prog w = .ok (.float .f64 lo4) w := fun t w => run_float_arith w .mul t .f64 _ _ _ z1
        have R2 : Hid (rE f = 0) := Lib.hid (by unfold rE; rw [hn]; rfl)
        have RW := Lib.hid (rW_ref hf hn h1 h2)
        have HLO := Lib.hid d2.toQf
        have HHI := Lib.hid e2.toQf
        have hodd := (qf_isQ (n := 4 * ((qq f : Int) % 2)) (by omega)).eqQ one_isQ
        have HZ := Lib.hid z2
        have hqb : 1 ≤ qq f := by omega
        have hqb2 : qq f < 1125899906842624 := by omega
        have hq2 : (qq f : Int) % 2 = 0 ∨ (qq f : Int) % 2 = 1 := by omega
        have HO := Lib.hid hodd
        have HG1 := Lib.hid g1
        have HG2 := Lib.hid g2
        clear hm c1 c2 c3 c4 c5 hfl hb d1 d2 e1 e2 x2 x3 x4 x5 y2 y3 y4 y5 g1 g2 z1 z2 hodd
        by_cases p1 : Q1 < 2 * qr f
        · have f1 : fgt x1 y1 = true := by rw [HG1.out]; exact decide_eq_true p1
          have R1 : Hid (rW f = hi) := Lib.hid (by rw [RW.out, HHI.out]; congr 1; unfold qn; rw [if_pos (.inl p1)]; omega)
          go_enter Try.func27, Try.ntmps27
          go_wp2_with (first | (go_at_call 34; refine (rnan_any _ _).mono ?_; rintro e w' ⟨rfl, rfl⟩) | (go_at_call 44; refine (floor_any _ _ hcn).mono ?_; rintro e w' ⟨rfl, rfl⟩) | (go_at_call 45; refine (Mod_two _ (qq f) HZ.out hqb hqb2 _).mono ?_; rintro e w' ⟨rfl, rfl⟩))
          go_ret2
          exact ⟨ret_fi R1.out.symm R2.out.symm, rfl⟩
        · have f1 : fgt x1 y1 = false := by rw [HG1.out]; exact decide_eq_false p1
          by_cases p2 : Q1 = 2 * qr f
          · have f2 : feq x1 y1 = true := by rw [HG2.out]; exact decide_eq_true p2
            rcases hq2 with p3 | p3
            · have f3 : feq (qf (4 * ((qq f : Int) % 2))) 4607182418800017408 = false := by rw [HO.out, p3]; decide
              have R1 : Hid (rW f = lo) := Lib.hid (by rw [RW.out, HLO.out]; congr 1; unfold qn; rw [if_neg (by omega)])
              clear p3
              go_enter Try.func27, Try.ntmps27
              go_wp2_with (first | (go_at_call 34; refine (rnan_any _ _).mono ?_; rintro e w' ⟨rfl, rfl⟩) | (go_at_call 44; refine (floor_any _ _ hcn).mono ?_; rintro e w' ⟨rfl, rfl⟩) | (go_at_call 45; refine (Mod_two _ (qq f) HZ.out hqb hqb2 _).mono ?_; rintro e w' ⟨rfl, rfl⟩))
              go_ret2
              exact ⟨ret_fi R1.out.symm R2.out.symm, rfl⟩
            · have f3 : feq (qf (4 * ((qq f : Int) % 2))) 4607182418800017408 = true := by rw [HO.out, p3]; decide
              have R1 : Hid (rW f = hi) := Lib.hid (by rw [RW.out, HHI.out]; congr 1; unfold qn; rw [if_pos (.inr ⟨p2, by omega⟩)]; omega)
              clear p3
              go_enter Try.func27, Try.ntmps27
              go_wp2_with (first | (go_at_call 34; refine (rnan_any _ _).mono ?_; rintro e w' ⟨rfl, rfl⟩) | (go_at_call 44; refine (floor_any _ _ hcn).mono ?_; rintro e w' ⟨rfl, rfl⟩) | (go_at_call 45; refine (Mod_two _ (qq f) HZ.out hqb hqb2 _).mono ?_; rintro e w' ⟨rfl, rfl⟩))
              go_ret2
              exact ⟨ret_fi R1.out.symm R2.out.symm, rfl⟩
          · have f2 : feq x1 y1 = false := by rw [HG2.out]; exact decide_eq_false p2
            have R1 : Hid (rW f = lo) := Lib.hid (by rw [RW.out, HLO.out]; congr 1; unfold qn; rw [if_neg (by omega)])
            go_enter Try.func27, Try.ntmps27
            go_wp2_with (first | (go_at_call 34; refine (rnan_any _ _).mono ?_; rintro e w' ⟨rfl, rfl⟩) | (go_at_call 44; refine (floor_any _ _ hcn).mono ?_; rintro e w' ⟨rfl, rfl⟩) | (go_at_call 45; refine (Mod_two _ (qq f) HZ.out hqb hqb2 _).mono ?_; rintro e w' ⟨rfl, rfl⟩))
            go_ret2
            exact ⟨ret_fi R1.out.symm R2.out.symm, rfl⟩
      · have R1 : Hid (rW f = 4697254411347427328) := Lib.hid (rW_high hn h2)
        have R2 : Hid (rE f = 0) := Lib.hid (by unfold rE; rw [hn]; rfl)
        go_enter Try.func27, Try.ntmps27
        go_wp2_with (go_at_call 34; refine (rnan_any _ _).mono ?_; rintro e w' ⟨rfl, rfl⟩)
        go_ret2
        exact ⟨ret_fi R1.out.symm R2.out.symm, rfl⟩
    · have R1 : Hid (rW f = 4607182418800017408) := Lib.hid (rW_low hn h1)
      have R2 : Hid (rE f = 0) := Lib.hid (by unfold rE; rw [hn]; rfl)
      go_enter Try.func27, Try.ntmps27
      go_wp2_with (go_at_call 34; refine (rnan_any _ _).mono ?_; rintro e w' ⟨rfl, rfl⟩)
      go_ret2
      exact ⟨ret_fi R1.out.symm R2.out.symm, rfl⟩
  · have R1 : Hid (rW f = 0) := Lib.hid (by unfold rW; rw [hn]; rfl)
    have R2 : Hid (rE f = 10) := Lib.hid (by unfold rE; rw [hn]; rfl)
    go_enter Try.func27, Try.ntmps27
    go_wp2_with (go_at_call 34; refine (rnan_any _ _).mono ?_; rintro e w' ⟨rfl, rfl⟩)
    go_ret2
    exact ⟨ret_fi R1.out.symm R2.out.symm, rfl⟩
set_option maxHeartbeats 800000 in
theorem MetricRounds_walk (f : Nat) (w : World) (hf : f < 18446744073709551616) : Calls Try.prog 11 #[.float .f64 f] w fun e w' => e = .returned (.bool true) ∧ Below w.heap.size w w' := by
  cases hn : isnan f
  · obtain ⟨n, n1, n2, hq⟩ := rW_isQ hf hn
    have hw0 := hq.within maxw_isQ (by omega) (by omega) (by omega)
    have hrl := rW_lt hf
    have hE : rE f = 0 := by unfold rE; rw [hn]; rfl
    have hb := withinI_bd f 4697254411347427328
    by_cases h0 : withinI f 4697254411347427328 = 0
    · have h1 := rW_weight hf h0
      have HQ := Lib.hid hq
      clear hq
      go_enter Try.func11, Try.ntmps11
      go_wp2_with (first | (go_at_call 26; refine (round_any _ hf _).mono ?_; rintro e w' ⟨rfl, rfl⟩) | (go_at_call 27; refine (rround_any _ hf _).mono ?_; rintro e w' ⟨rfl, rfl⟩) | (go_at_call 15; refine (same_any _ _ _).mono ?_; rintro e w' ⟨rfl, rfl⟩) | (go_at_call 12; first | (refine (weight_any (rW f) hrl _).mono ?_; rintro e w' ⟨rfl, rfl⟩) | (refine (weight_any f hf _).mono ?_; rintro e w' ⟨rfl, rfl⟩)) | (go_at_call 14; refine (awake_any _).mono ?_; rintro e w' ⟨rfl, n, rfl⟩))
      go_ret
      exact ⟨rfl, below_drewN (Below.refl _ _) _⟩
    · have hne : (withinI f 4697254411347427328 == 0) = false := by simp; omega
      have hnb : (withinI f 4697254411347427328 != 0) = true := by simp; omega
      have HQ := Lib.hid hq
      clear hq
      go_enter Try.func11, Try.ntmps11
      go_wp2_with (first | (go_at_call 26; refine (round_any _ hf _).mono ?_; rintro e w' ⟨rfl, rfl⟩) | (go_at_call 27; refine (rround_any _ hf _).mono ?_; rintro e w' ⟨rfl, rfl⟩) | (go_at_call 15; refine (same_any _ _ _).mono ?_; rintro e w' ⟨rfl, rfl⟩) | (go_at_call 12; first | (refine (weight_any (rW f) hrl _).mono ?_; rintro e w' ⟨rfl, rfl⟩) | (refine (weight_any f hf _).mono ?_; rintro e w' ⟨rfl, rfl⟩)) | (go_at_call 14; refine (awake_any _).mono ?_; rintro e w' ⟨rfl, n, rfl⟩))
      go_ret
      exact ⟨rfl, below_drewN (Below.refl _ _) _⟩
  · have hE : rE f = 10 := by unfold rE; rw [hn]; rfl
    have h0 : withinI f 4697254411347427328 = 10 := by unfold withinI; rw [hn]; rfl
    have hrl := rW_lt hf
    go_enter Try.func11, Try.ntmps11
    go_wp2_with (first | (go_at_call 26; refine (round_any _ hf _).mono ?_; rintro e w' ⟨rfl, rfl⟩) | (go_at_call 27; refine (rround_any _ hf _).mono ?_; rintro e w' ⟨rfl, rfl⟩) | (go_at_call 15; refine (same_any _ _ _).mono ?_; rintro e w' ⟨rfl, rfl⟩) | (go_at_call 12; first | (refine (weight_any (rW f) hrl _).mono ?_; rintro e w' ⟨rfl, rfl⟩) | (refine (weight_any f hf _).mono ?_; rintro e w' ⟨rfl, rfl⟩)) | (go_at_call 14; refine (awake_any _).mono ?_; rintro e w' ⟨rfl, n, rfl⟩))
    go_ret
    exact ⟨rfl, below_drewN (Below.refl _ _) _⟩

end Go.Proofs.Ytcpbanekjncekaa
