/- The walk of the law on sums of quarters: returns true, writes nothing that was there. Conditions: the numbers fit uint32. -/
import Derived.Test.YtcpbanekjncekaaWal
import Derived.Test.YtcpbanekjncekaaFlq
import Derived.OpenShut
namespace Go.Proofs.Ytcpbanekjncekaa
open Go.RowKit Flt

theorem add_fl (n : Int) (o : Option Int) (hn : 0 ≤ n) (hn2 : n < 4503599627370496) (ho : okE o) (w : World) :
    Calls Try.prog 16 #[.float .f64 (qf n), .float .f64 (fl o), .float .f64 4742290407621132288] w fun e w' => e = .returned (.float .f64 (fl (eaddL n o))) ∧ ∃ k, w' = w.drewN k :=
  (add_any _ _ _ w).mono fun e w' h => by rw [addF_L hn hn2 ho] at h; exact h
theorem add_q (n d : Int) (hn : 0 ≤ n) (hn2 : n < 4503599627370496) (ho : okE (some d)) (w : World) :
    Calls Try.prog 16 #[.float .f64 (qf n), .float .f64 (qf d), .float .f64 4742290407621132288] w fun e w' => e = .returned (.float .f64 (fl (eaddL n (some d)))) ∧ ∃ k, w' = w.drewN k :=
  add_fl n (some d) hn hn2 ho w
theorem dist_fl (o : Option Int) (ho : okE o) (hl : fl o < 18446744073709551616) (w : World) :
    Calls Try.prog 20 #[.float .f64 (fl o), .float .f64 4742290407621132288] w fun e w' => e = .returned (.int .i64 0) ∧ w' = w :=
  (dist_any _ _ hl (by decide) w).mono fun e w' h => by rw [distI_fl maxl_LQ (by decide) (by decide) ho] at h; exact h
theorem fl_lt {o : Option Int} (ho : okE o) : fl o < 18446744073709551616 := by
  cases o with
  | none => decide
  | some m => exact (qf_isQ (okE_nat ho m rfl)).lt
set_option maxHeartbeats 1600000 in
theorem sums_core (X Y D : Int) (hX : 4 ≤ X) (hX2 : X ≤ 4194304) (hY : 4 ≤ Y) (hY2 : Y ≤ 4194304) (hD : 0 ≤ D) (hD2 : D ≤ 4294967295) :
    okE (some D) ∧ okE (eaddL X (some D)) ∧ okE (eaddL Y (some D)) ∧ okE (eaddL X (eaddL Y (some D))) ∧ eaddL Y (eaddL X (some D)) = eaddL X (eaddL Y (some D)) ∧
    flt (fl (eaddL X (some D))) (qf D) = false ∧ feq (fl (eaddL X (some D))) (qf D) = false ∧ (X ≤ Y → cmpI (fl (eaddL X (some D))) (fl (eaddL Y (some D))) ≤ 0) := by
  have h0 : okE (some D) := by intro m hm; cases hm; unfold LQ; omega
  have h1 := okE_add (n := X) (by omega) h0
  have h2 := okE_add (n := Y) (by omega) h0
  refine ⟨h0, h1, h2, okE_add (by omega) h2, eaddL_comm X Y D (by omega) (by omega), ?_, ?_, fun h => cmpI_fl h1 h2 (elt_mono h)⟩
  · rw [show qf D = fl (some D) from rfl, flt_fl (okE_nat h1) (okE_nat h0)]; exact (elt_add (by omega)).1
  · rw [show qf D = fl (some D) from rfl, feq_fl h1 h0, (elt_add (x := X) (d := D) (by omega)).2]; simp
set_option maxHeartbeats 1600000 in
theorem MetricSums_walk (a b d : Int) (w : World) (wa : (Lit.int .u32 a).wf = true) (wb : (Lit.int .u32 b).wf = true) (wd : (Lit.int .u32 d).wf = true) :
    Calls Try.prog 10 #[.int .u32 a, .int .u32 b, .int .u32 d] w fun e w' => e = .returned (.bool true) ∧ Below w.heap.size w w' := by
  have ba := bounds_u32 wa
  have bb := bounds_u32 wb
  have bd := bounds_u32 wd
  clear wa wb wd
  obtain ⟨ha, ha2⟩ := ba
  obtain ⟨hb, hb2⟩ := bb
  obtain ⟨hd, hd2⟩ := bd
  have q1 : ∀ t w, (binOp .quo t (.float .f64 (floatOfInt .f64 (4 + a % 4194301))) (.float .f64 4616189618054758400)).run Try.prog w = .ok (.float .f64 (qf (4 + a % 4194301))) w := fun t w => run_float_arith w .quo t .f64 _ _ _ (div4_qf (by omega))
  have q2 : ∀ t w, (binOp .quo t (.float .f64 (floatOfInt .f64 (4 + b % 4194301))) (.float .f64 4616189618054758400)).run Try.prog w = .ok (.float .f64 (qf (4 + b % 4194301))) w := fun t w => run_float_arith w .quo t .f64 _ _ _ (div4_qf (by omega))
  have q3 : ∀ t w, (binOp .quo t (.float .f64 (floatOfInt .f64 d)) (.float .f64 4616189618054758400)).run Try.prog w = .ok (.float .f64 (qf d)) w := fun t w => run_float_arith w .quo t .f64 _ _ _ (div4_qf (by omega))
  have hX : 4 ≤ 4 + a % 4194301 := by omega
  have hX2 : 4 + a % 4194301 ≤ 4194304 := by omega
  have hY : 4 ≤ 4 + b % 4194301 := by omega
  have hY2 : 4 + b % 4194301 ≤ 4194304 := by omega
  go_enter Try.func10, Try.ntmps10
  go_wp2_with (fail)
  clear q1 q2 q3
  generalize 4 + a % 4194301 = X at *
  generalize 4 + b % 4194301 = Y at *
  clear ha2 hb2
  obtain ⟨k0, k1, k2, k3, k4, k5, k6, k7⟩ := sums_core X Y d hX hX2 hY hY2 hd hd2
  have K0 := Lib.hid k0
  have K1 := Lib.hid k1
  have K2 := Lib.hid k2
  have K3 := Lib.hid k3
  have g1 := (qf_isQ (n := X) (by omega)).ltQ (qf_isQ (n := Y) (by omega))
  have g2 := (qf_isQ (n := X) (by omega)).eqQ (qf_isQ (n := Y) (by omega))
  have hl := Lib.hid (fl_lt k3)
  have G1 := Lib.hid g1
  have G2 := Lib.hid g2
  clear k0 k1 k2 k3 g1 g2
  refine (add_q Y d (by omega) (by omega) K0.out _).mono ?_
  rintro e w' ⟨rfl, n1, rfl⟩
  go_wp2_with (fail)
  refine (add_fl X _ (by omega) (by omega) K2.out _).mono ?_
  rintro e w' ⟨rfl, n2, rfl⟩
  go_wp2_with (fail)
  refine (add_q X d (by omega) (by omega) K0.out _).mono ?_
  rintro e w' ⟨rfl, n3, rfl⟩
  go_wp2_with (fail)
  refine (add_fl Y _ (by omega) (by omega) K1.out _).mono ?_
  rintro e w' ⟨rfl, n4, rfl⟩
  go_wp2_with (fail)
  refine (same_any _ _ _).mono ?_
  rintro e w' ⟨rfl, rfl⟩
  go_wp2_with (fail)
  refine (add_q X d (by omega) (by omega) K0.out _).mono ?_
  rintro e w' ⟨rfl, n5, rfl⟩
  by_cases h : X ≤ Y
  · have f0 : (flt (qf X) (qf Y) || feq (qf X) (qf Y)) = true := by
      rw [G1.out, G2.out, ← Bool.decide_or]; exact decide_eq_true (by omega)
    have k8 := k7 h
    clear k7
    go_wp2_with (fail)
    refine (add_q X d (by omega) (by omega) K0.out _).mono ?_
    rintro e w' ⟨rfl, n6, rfl⟩
    go_wp2_with (fail)
    refine (add_q Y d (by omega) (by omega) K0.out _).mono ?_
    rintro e w' ⟨rfl, n7, rfl⟩
    go_wp2_with (fail)
    refine (compare_any _ _ _).mono ?_
    rintro e w' ⟨rfl, rfl⟩
    go_wp2_with (first | (go_at_call 20; refine (dist_fl _ K3.out hl.out _).mono ?_; rintro e w' ⟨rfl, rfl⟩) | (go_at_call 14; refine (awake_any _).mono ?_; rintro e w' ⟨rfl, d3, rfl⟩))
    go_ret
    exact ⟨rfl, below_drewN (Below.refl _ _) _⟩
  · have f0 : (flt (qf X) (qf Y) || feq (qf X) (qf Y)) = false := by
      rw [G1.out, G2.out, ← Bool.decide_or]; exact decide_eq_false (by omega)
    clear k7
    go_wp2_with (first | (go_at_call 20; refine (dist_fl _ K3.out hl.out _).mono ?_; rintro e w' ⟨rfl, rfl⟩) | (go_at_call 14; refine (awake_any _).mono ?_; rintro e w' ⟨rfl, d3, rfl⟩))
    go_ret
    exact ⟨rfl, below_drewN (Below.refl _ _) _⟩

end Go.Proofs.Ytcpbanekjncekaa
