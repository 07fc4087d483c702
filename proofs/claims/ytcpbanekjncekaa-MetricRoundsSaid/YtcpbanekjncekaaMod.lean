/- The walks of math's Frexp, Ldexp and Mod at whole floats, the divisor two. Conditions: the words are positive and normal, the numbers below 2^50. -/
import Derived.Test.YtcpbanekjncekaaLeaf
import Derived.Test.YtcpbanekjncekaaFlm
namespace Go.Proofs.Ytcpbanekjncekaa
open Go.RowKit Flt

theorem ret_fi {a b : Nat} {x y : Int} (h : a = b) (k : x = y) : Ending.returned (.tuple #[.float .f64 a, .int .i64 x]) = .returned (.tuple #[.float .f64 b, .int .i64 y]) := by rw [h, k]
set_option maxHeartbeats 400000 in
theorem normalize_any (x j : Nat) (h : Nrm x j) (w : World) : Calls Try.prog 64 #[.float .f64 x] w fun e w' => e = .returned (.tuple #[.float .f64 x, .int .i64 0]) ∧ w' = w := by
  have hl := h.lt
  have ht := h.tests.2.2.2.2.2.2
  clear h
  go_enter Try.func64, Try.ntmps64
  go_wp2_with (go_at_call 46; refine (abs_any _ _ (by omega)).mono ?_; rintro e w' ⟨rfl, rfl⟩)
  go_ret2
  exact ⟨rfl, rfl⟩
set_option maxHeartbeats 400000 in
theorem frexp_any (x j : Nat) (h : Nrm x j) (w : World) : Calls Try.prog 61 #[.float .f64 x] w fun e w' => e = .returned (.tuple #[.float .f64 (ffr x), .int .i64 ((j : Int) + 1)]) ∧ w' = w := by
  have hl := h.lt
  have hjl := h.jl
  obtain ⟨t1, t2, t3, t4, t5, t6, t7⟩ := h.tests
  have e1 := h.bits_and
  have e2 := h.bits_clear
  have e3 := bits_set x
  have hb := bits_ext
  have hf := frombits_ext
  clear t3 t4 t6 t7
  have H := Lib.hid h
  clear h
  go_enter Try.func61, Try.ntmps61
  go_wp2_with (first | (go_at_call 37; refine (isinf0_any _ _ (by omega)).mono ?_; rintro e w' ⟨rfl, rfl⟩) | (go_at_call 31; refine (isnan_any _ _).mono ?_; rintro e w' ⟨rfl, rfl⟩) | (go_at_call 64; refine (normalize_any _ j H.out _).mono ?_; rintro e w' ⟨rfl, rfl⟩))
  go_ret2
  exact ⟨ret_fi rfl (by omega), rfl⟩
set_option maxHeartbeats 400000 in
theorem Frexp_any (x j : Nat) (h : Nrm x j) (w : World) : Calls Try.prog 57 #[.float .f64 x] w fun e w' => e = .returned (.tuple #[.float .f64 (ffr x), .int .i64 ((j : Int) + 1)]) ∧ w' = w := by
  go_enter Try.func57, Try.ntmps57
  go_wp2_with (go_at_call 61; refine (frexp_any x j h _).mono ?_; rintro e w' ⟨rfl, rfl⟩)
  go_ret2
  exact ⟨rfl, rfl⟩
theorem two_nrm : Nrm 4611686018427387904 1 := ⟨by decide, by decide, by decide⟩
set_option maxRecDepth 100000 in
set_option maxHeartbeats 400000 in
theorem ldexp_gen (x k : Nat) (h : Nrm x 1) (hm : mfr x = 0) (hk : k + 1 < 50) (w : World) : Calls Try.prog 63 #[.float .f64 x, .int .i64 (k : Int)] w fun e w' => e = .returned (.float .f64 (pow2 (k + 1))) ∧ w' = w := by
  have hl := h.lt
  obtain ⟨t1, t2, t3, t4, t5, t6, t7⟩ := h.tests
  have c0 : (x : Int) / 4503599627370496 = 1024 := by have := h.ex; omega
  have c1 : bits .and .i64 1024 2047 = 1024 := by decide +kernel
  have c2 : bits .andNot .u64 (x : Int) 9218868437227405312 = 0 := by rw [h.bits_clear, hm]; rfl
  have hb := bits_ext
  have hf := frombits_ext
  have c3 : bits .or .u64 0 (((k : Int) + 1 + 1023) * 4503599627370496) = (pow2 (k + 1) : Int) := by
    have e : ((k : Int) + 1 + 1023) * 4503599627370496 = ((pow2 (k + 1) : Nat) : Int) := by unfold pow2; omega
    rw [e, show (0 : Int) = ((0 : Nat) : Int) from rfl, u64_or_nat _ _ (by decide) (by unfold pow2; omega), Nat.zero_or]
  have hop : ∀ t w, (binOp .mul t (.float .f64 4607182418800017408) (.float .f64 (pow2 (k + 1)))).run Try.prog w = .ok (.float .f64 (pow2 (k + 1))) w := fun t w => run_float_arith w .mul t .f64 _ _ _ (one_mul_pow2 (k + 1) hk)
  have HN := Lib.hid h
  clear t3 t4 t6 t7 h hm
  go_enter Try.func63, Try.ntmps63
  go_wp2_with (first | (go_at_call 37; refine (isinf0_any _ _ (by omega)).mono ?_; rintro e w' ⟨rfl, rfl⟩) | (go_at_call 31; refine (isnan_any _ _).mono ?_; rintro e w' ⟨rfl, rfl⟩) | (go_at_call 64; refine (normalize_any _ 1 HN.out _).mono ?_; rintro e w' ⟨rfl, rfl⟩))
  go_ret
  exact ⟨rfl, rfl⟩
def fOf : Value → Nat | .float _ b => b | _ => 0
theorem ldexp_z (z : Int) (k : Nat) (hz : z = k) (hk : k + 1 < 50) (w : World) : Calls Try.prog 63 #[.float .f64 4611686018427387904, .int .i64 z] w fun e w' => e = .returned (.float .f64 (pow2 (k + 1))) ∧ w' = w := by
  subst hz; exact ldexp_gen _ k two_nrm (by decide) hk w
set_option maxHeartbeats 400000 in
theorem Ldexp_any (z : Int) (k : Nat) (hz : z = k) (hk : k + 1 < 50) (w : World) : Calls Try.prog 58 #[.float .f64 4611686018427387904, .int .i64 z] w fun e w' => e = .returned (.float .f64 (pow2 (k + 1))) ∧ w' = w := by
  have HZ := Lib.hid hz
  clear hz
  go_enter Try.func58, Try.ntmps58
  go_wp2_with (go_at_call 63; refine (ldexp_z _ k HZ.out hk _).mono ?_; rintro e w' ⟨rfl, rfl⟩)
  go_ret
  exact ⟨rfl, rfl⟩
theorem isQ_bits {a b : Nat} {n m : Nat} (ha : IsQ a (4 * (n : Int))) (hb : IsQ b (4 * (m : Int))) (h : n < m) : a < b := by
  have h1 := ha.ltQ hb
  rw [flt_of ha.nan hb.nan, decide_eq_true (show 4 * (n : Int) < 4 * (m : Int) by omega), decide_eq_true_eq] at h1
  have s1 := ha.sg
  have s2 := hb.sg
  rw [decide_eq_false (by omega)] at s1 s2
  have e1 := mk_eta ha.lt
  have e2 := mk_eta hb.lt
  rw [s1] at e1
  rw [s2] at e2
  unfold key at h1
  rw [s1, s2] at h1
  unfold mk at e1 e2
  simp at h1 e1 e2
  omega
set_option maxRecDepth 100000 in
set_option maxHeartbeats 1600000 in
theorem mod_two (x q : Nat) (hx : IsQ x (4 * (q : Int))) (hq : 1 ≤ q) (hq2 : q < 1125899906842624) (w : World) :
    Calls Try.prog 52 #[.float .f64 x, .float .f64 4611686018427387904] w fun e w' => (∃ v, e = .returned (.float .f64 v) ∧ IsQ v (4 * ((q : Int) % 2))) ∧ w' = w := by
  have hxl := hx.lt
  have t1 := hx.nan
  have t2 := hx.inf
  have t3 : feq 4611686018427387904 0 = false := by decide +kernel
  have t4 : isnan 4611686018427387904 = false := by decide +kernel
  have t5 : absW 4611686018427387904 = 4611686018427387904 := by decide +kernel
  have t6 : ffr 4611686018427387904 = 4602678819172646912 := by decide +kernel
  have t7 : flt x 0 = false := by rw [hx.ltQ zero_isQ]; exact decide_eq_false (by omega)
  have HX := Lib.hid hx
  clear hx
  go_enter Try.func52, Try.ntmps52
  go_wp2_with (first | (go_at_call 37; refine (isinf0_any _ _ hxl).mono ?_; rintro e w' ⟨rfl, rfl⟩) | (go_at_call 31; refine (isnan_any _ _).mono ?_; rintro e w' ⟨rfl, rfl⟩) | (go_at_call 46; refine (abs_any _ _ (by decide)).mono ?_; rintro e w' ⟨rfl, rfl⟩) | (go_at_call 57; refine (Frexp_any _ 1 two_nrm _).mono ?_; rintro e w' ⟨rfl, rfl⟩))
  go_loop [7] (fun r => ∃ (n v : Nat), r = .float .f64 v ∧ IsQ v (4 * (n : Int)) ∧ n % 2 = q % 2 ∧ n ≤ q) (fun r => fOf r)
  case atStart => exact ⟨q, x, rfl, HX.out, rfl, Nat.le_refl _⟩
  case round =>
    obtain ⟨n, v, rfl, hv, hpar, hnq⟩ := hrel
    have hvn := hv.nan
    have g1 : fgt v 4611686018427387904 = decide (8 < 4 * (n : Int)) := two_isQ.ltQ hv
    have g2 : feq v 4611686018427387904 = decide (4 * (n : Int) = 8) := hv.eqQ two_isQ
    have HV := Lib.hid hv
    have HP := Lib.hid hpar
    clear hv hpar
    by_cases h2 : 2 ≤ n
    · have g3 : (fgt v 4611686018427387904 || feq v 4611686018427387904) = true := by rw [g1, g2, ← Bool.decide_or]; exact decide_eq_true (by omega)
      clear g1 g2
      obtain ⟨c, hc1, hc2⟩ := sub_rest2 HV.out (by omega) (by omega)
      have hlg := (Nat.le_log2 (n := n) (by omega) (k := 1)).2 (by omega)
      have hnr := HV.out.nrm (by omega) (by omega)
      obtain ⟨k, hk⟩ : ∃ k, n.log2 = k + 1 := ⟨n.log2 - 1, by omega⟩
      rw [hk] at hnr hc1
      have hkl : k + 1 < 50 := hnr.jl
      have hh := ffr_half v
      have hop : ∀ t w, (binOp .sub t (.float .f64 v) (.float .f64 (pow2 (k + 1)))).run Try.prog w = .ok (.float .f64 c) w := fun t w => run_float_arith w .sub t .f64 _ _ _ hc1
      have HC := Lib.hid hc2
      have HN := Lib.hid hnr
      have HR := Lib.hid (show rest2 n % 2 = q % 2 from (rest2_mod h2).trans HP.out)
      have HM := Lib.hid (isQ_bits hc2 HV.out (rest2_lt (by omega)))
      have HL := Lib.hid (rest2_lt (n := n) (by omega))
      clear hk hlg hnr hc1 hc2
      go_wp2_with (first | (go_at_call 57; refine (Frexp_any _ _ HN.out _).mono ?_; rintro e w' ⟨rfl, rfl⟩) | (go_at_call 58; refine (Ldexp_any _ k (by omega) hkl _).mono ?_; rintro e w' ⟨rfl, rfl⟩))
      go_round
      case rel => exact ⟨rest2 n, c, rfl, HC.out, HR.out, by have := HL.out; omega⟩
      case measure => exact HM.out
    · have g3 : (fgt v 4611686018427387904 || feq v 4611686018427387904) = false := by rw [g1, g2, ← Bool.decide_or]; exact decide_eq_false (by omega)
      clear g1 g2
      go_wp2
      go_ret
      have e : (4 * (n : Int)) = 4 * ((q : Int) % 2) := by have := HP.out; omega
      exact ⟨⟨v, rfl, e ▸ HV.out⟩, rfl⟩
theorem mod_qf (x q : Nat) (hx : IsQ x (4 * (q : Int))) (hq : 1 ≤ q) (hq2 : q < 1125899906842624) (w : World) :
    Calls Try.prog 52 #[.float .f64 x, .float .f64 4611686018427387904] w fun e w' => e = .returned (.float .f64 (qf (4 * ((q : Int) % 2)))) ∧ w' = w :=
  (mod_two x q hx hq hq2 w).mono fun e w' ⟨⟨v, he, hv⟩, hw⟩ => ⟨by rw [he, ← hv.toQf], hw⟩
set_option maxHeartbeats 400000 in
theorem Mod_two (x q : Nat) (hx : IsQ x (4 * (q : Int))) (hq : 1 ≤ q) (hq2 : q < 1125899906842624) (w : World) :
    Calls Try.prog 45 #[.float .f64 x, .float .f64 4611686018427387904] w fun e w' => e = .returned (.float .f64 (qf (4 * ((q : Int) % 2)))) ∧ w' = w := by
  have HH := Lib.hid (mod_qf x q hx hq hq2 w)
  clear hx
  go_enter Try.func45, Try.ntmps45
  go_wp2_with (go_at_call 52; refine (HH.out).mono ?_; rintro e w' ⟨rfl, rfl⟩)
  go_ret
  exact ⟨rfl, rfl⟩
theorem floor_ext (b : Nat) (h : isnan b = false) (w : World) : (callFunc 49 #[.float .f64 b]).run Try.prog w = .ok (.value (.float .f64 (floorW b))) w := by
  rw [run_callFunc_extern (e := Extern.MathFloor.toIntegral "math.archFloor" .down) Try.func49 (by kernel_rfl) (by kernel_rfl) (by kernel_rfl) (by kernel_rfl)]
  rw [toIntegral_notnan _ _ h]
  rfl
theorem rte_ext (b : Nat) (h : isnan b = false) (w : World) : (callFunc 43 #[.float .f64 b]).run Try.prog w = .ok (.value (.float .f64 (rteW b))) w := by
  rw [run_callFunc_extern (e := Extern.MathFloor.toIntegral "math.RoundToEven" .even) Try.func43 (by kernel_rfl) (by kernel_rfl) (by kernel_rfl) (by kernel_rfl)]
  rw [toIntegral_notnan _ _ h]
  rfl
set_option maxHeartbeats 400000 in
theorem floor_any (b : Nat) (w : World) (h : isnan b = false) : Calls Try.prog 44 #[.float .f64 b] w fun e w' => e = .returned (.float .f64 (floorW b)) ∧ w' = w := by
  have hb := floor_ext b h
  go_enter Try.func44, Try.ntmps44
  go_wp2
  go_ret
  exact ⟨rfl, rfl⟩

end Go.Proofs.Ytcpbanekjncekaa
