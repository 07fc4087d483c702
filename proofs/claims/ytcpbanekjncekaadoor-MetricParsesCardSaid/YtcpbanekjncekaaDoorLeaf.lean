/- The contracts of the metric layer's leaves and of math's tests, program and reference: each Go function returns what its plain function of the bits says, and the world stays. Conditions: as each theorem's hypotheses say. -/
import Derived.Test.YtcpbanekjncekaaDoorRows
import Derived.Test.YtcpbanekjncekaaDoorFlb
import Derived.WalkSpells
import Derived.Lib.Hide
namespace Go.Proofs.YtcpbanekjncekaaDoor
open Go.RowKit Flt

theorem bits_ext (b : Nat) (w : World) : (callFunc 24 #[.float .f64 b]).run Tryd.prog w = .ok (.value (.int .u64 b)) w := by
  rw [run_callFunc_extern (e := Extern.MathFloatBits.float64bits) Tryd.func24 (by kernel_rfl) (by kernel_rfl) (by kernel_rfl) (by kernel_rfl)]
  rfl
theorem frombits_ext (n : Int) (w : World) : (callFunc 37 #[.int .u64 n]).run Tryd.prog w = .ok (.value (.float .f64 n.toNat)) w := by
  rw [run_callFunc_extern (e := Extern.MathFloatBits.float64frombits) Tryd.func37 (by kernel_rfl) (by kernel_rfl) (by kernel_rfl) (by kernel_rfl)]
  rfl
theorem trunc_ext (b : Nat) (h : isnan b = false) (w : World) : (callFunc 34 #[.float .f64 b]).run Tryd.prog w = .ok (.value (.float .f64 (truncW b))) w := by
  rw [run_callFunc_extern (e := Extern.MathFloor.toIntegral "math.archTrunc" .zero) Tryd.func34 (by kernel_rfl) (by kernel_rfl) (by kernel_rfl) (by kernel_rfl)]
  rw [toIntegral_notnan _ _ h]
  rfl

set_option maxHeartbeats 400000 in
theorem isnan_any (b : Nat) (w : World) : Calls Tryd.prog 27 #[.float .f64 b] w fun e w' => e = .returned (.bool (isnan b)) ∧ w' = w := by
  have hs : (!feq b b) = isnan b := by rw [feq_self]; simp
  go_enter Tryd.func27, Tryd.ntmps27
  go_wp2
  go_ret
  exact ⟨rfl, rfl⟩
set_option maxHeartbeats 400000 in
theorem rnan_any (b : Nat) (w : World) : Calls Tryd.prog 31 #[.float .f64 b] w fun e w' => e = .returned (.bool (isnan b)) ∧ w' = w := by
  have hs : (!feq b b) = isnan b := by rw [feq_self]; simp
  go_enter Tryd.func31, Tryd.ntmps31
  go_wp2
  go_ret
  exact ⟨rfl, rfl⟩

/-- what Go's Signbit asks of the bits -/
theorem sgn_i64 (b : Nat) (h : b < 18446744073709551616) : (wrap64 (b : Int) < 0) ↔ sgn b = true := by
  unfold sgn wrap64
  by_cases h1 : b < 9223372036854775808
  · have : b / 9223372036854775808 = 0 := by omega
    rw [this]
    constructor
    · intro h; omega
    · intro h; cases h
  · have : b / 9223372036854775808 = 1 := by omega
    rw [this]
    exact ⟨fun _ => rfl, fun _ => by omega⟩
theorem ret_bool {a b : Bool} (h : a = b) : Ending.returned (.bool a) = .returned (.bool b) := by rw [h]
theorem ret_int {k : IntKind} {a b : Int} (h : a = b) : Ending.returned (.int k a) = .returned (.int k b) := by rw [h]
theorem ret_float {a b : Nat} (h : a = b) : Ending.returned (.float .f64 a) = .returned (.float .f64 b) := by rw [h]
theorem andNot63 (b : Nat) (h : b < 18446744073709551616) : (bits .andNot .u64 (b : Int) 9223372036854775808).toNat = rung b := by
  have e : bits .andNot .u64 (b : Int) 9223372036854775808 = IntKind.u64.wrap ((BitVec.ofInt 64 (b : Int) &&& ~~~(BitVec.ofInt 64 9223372036854775808)).toNat : Int) := rfl
  have hb : (BitVec.ofInt 64 (b : Int)).toNat = b := by rw [BitVec.ofInt_natCast, BitVec.toNat_ofNat]; exact Nat.mod_eq_of_lt (by omega)
  have hc : (~~~(BitVec.ofInt 64 9223372036854775808)).toNat = 2 ^ 63 - 1 := by decide
  rw [e, BitVec.toNat_and, hb, hc, Nat.and_two_pow_sub_one_eq_mod, IntKind.wrap_u64]
  unfold rung
  omega
theorem shr63 (b : Nat) (h : b < 18446744073709551616) : (((b : Int) / 9223372036854775808) == 1) = sgn b := by
  unfold sgn
  have h2 : b / 9223372036854775808 < 2 := by omega
  have e : (b : Int) / 9223372036854775808 = ((b / 9223372036854775808 : Nat) : Int) := by omega
  rw [e]
  generalize b / 9223372036854775808 = q at h2 ⊢
  have : q = 0 ∨ q = 1 := by omega
  rcases this with rfl | rfl <;> rfl
set_option maxHeartbeats 400000 in
theorem signbit_any (b : Nat) (w : World) (h : b < 18446744073709551616) : Calls Tryd.prog 28 #[.float .f64 b] w fun e w' => e = .returned (.bool (sgn b)) ∧ w' = w := by
  have hb := bits_ext b
  go_enter Tryd.func28, Tryd.ntmps28
  go_wp2
  go_ret
  refine ⟨ret_bool ?_, rfl⟩
  have := sgn_i64 b h
  cases hs : sgn b <;> simp [hs] at this ⊢ <;> exact this
set_option maxHeartbeats 400000 in
theorem rsign_any (b : Nat) (w : World) (h : b < 18446744073709551616) : Calls Tryd.prog 32 #[.float .f64 b] w fun e w' => e = .returned (.bool (sgn b)) ∧ w' = w := by
  have hb := bits_ext b
  go_enter Tryd.func32, Tryd.ntmps32
  go_wp2
  go_ret
  exact ⟨ret_bool (shr63 b h), rfl⟩
set_option maxHeartbeats 400000 in
theorem abs_any (b : Nat) (w : World) (h : b < 18446744073709551616) : Calls Tryd.prog 26 #[.float .f64 b] w fun e w' => e = .returned (.float .f64 (absW b)) ∧ w' = w := by
  have hb := bits_ext b
  have hf := frombits_ext
  go_enter Tryd.func26, Tryd.ntmps26
  go_wp2
  go_ret
  exact ⟨ret_float (andNot63 b h), rfl⟩
set_option maxHeartbeats 400000 in
theorem isinf0_any (b : Nat) (w : World) (h : b < 18446744073709551616) : Calls Tryd.prog 14 #[.float .f64 b, .int .i64 0] w fun e w' => e = .returned (.bool (isinf b)) ∧ w' = w := by
  go_enter Tryd.func14, Tryd.ntmps14
  go_wp2_with (go_at_call 26; refine (abs_any _ _ h).mono ?_; rintro e w' ⟨rfl, rfl⟩)
  go_ret
  exact ⟨ret_bool (inf_abs b), rfl⟩
set_option maxHeartbeats 400000 in
theorem isinf1_any (b : Nat) (w : World) : Calls Tryd.prog 14 #[.float .f64 b, .int .i64 1] w fun e w' => e = .returned (.bool (isPinf b)) ∧ w' = w := by
  go_enter Tryd.func14, Tryd.ntmps14
  go_wp2
  go_ret
  exact ⟨ret_bool (inf_plus b), rfl⟩
set_option maxHeartbeats 400000 in
theorem inf1_any (w : World) : Calls Tryd.prog 21 #[.int .i64 1] w fun e w' => e = .returned (.float .f64 9218868437227405312) ∧ w' = w := by
  have hf := frombits_ext
  go_enter Tryd.func21, Tryd.ntmps21
  go_wp2
  go_ret
  exact ⟨rfl, rfl⟩
set_option maxHeartbeats 400000 in
theorem same_any (a b : Nat) (w : World) : Calls Tryd.prog 12 #[.float .f64 a, .float .f64 b] w fun e w' => e = .returned (.bool (a == b)) ∧ w' = w := by
  have hb := bits_ext
  go_enter Tryd.func12, Tryd.ntmps12
  go_wp2
  go_ret
  refine ⟨ret_bool ?_, rfl⟩
  rw [Bool.eq_iff_iff]; simp; omega
set_option maxHeartbeats 400000 in
theorem trunc_any (b : Nat) (w : World) (h : isnan b = false) : Calls Tryd.prog 18 #[.float .f64 b] w fun e w' => e = .returned (.float .f64 (truncW b)) ∧ w' = w := by
  have hb := trunc_ext b h
  go_enter Tryd.func18, Tryd.ntmps18
  go_wp2
  go_ret
  exact ⟨rfl, rfl⟩
set_option maxHeartbeats 400000 in
theorem quarter_any (b : Nat) (w : World) (h1 : isnan b = false) (h2 : isinf b = false) : Calls Tryd.prog 29 #[.float .f64 b] w fun e w' => e = .returned (.bool (quarterB b)) ∧ w' = w := by
  have hfin : rung b < infR := by
    have a1 := (nan_rung' b).1 h1
    have a2 : ¬ rung b = infR := by simpa [isinf] using h2
    unfold infR at *; omega
  clear h1 h2
  obtain ⟨q, hq, hn, _⟩ := mul_some hfin (y := 4616189618054758400) (by decide)
  have hop : ∀ t w, (binOp .mul t (.float .f64 b) (.float .f64 4616189618054758400)).run Tryd.prog w = .ok (.float .f64 q) w := fun t w => run_float_arith w .mul t .f64 b _ q hq
  have hqb : quarterB b = feq q (truncW q) := by unfold quarterB; rw [hq]
  have HQ := Lib.hid hqb
  have HM := Lib.hid hq
  have HN := Lib.hid hn
  clear hqb hq hn
  go_enter Tryd.func29, Tryd.ntmps29
  go_wp2_with (go_at_call 18; refine (trunc_any q _ HN.out).mono ?_; rintro e w' ⟨rfl, rfl⟩)
  go_ret
  exact ⟨ret_bool (by rw [HQ.out]), rfl⟩
set_option maxHeartbeats 400000 in
theorem rquarter_any (b : Nat) (w : World) (h1 : isnan b = false) (h2 : isinf b = false) : Calls Tryd.prog 33 #[.float .f64 b] w fun e w' => e = .returned (.bool (quarterB b)) ∧ w' = w := by
  have hfin : rung b < infR := by
    have a1 := (nan_rung' b).1 h1
    have a2 : ¬ rung b = infR := by simpa [isinf] using h2
    unfold infR at *; omega
  clear h1 h2
  obtain ⟨q, hq, hn, _⟩ := mul_some hfin (y := 4616189618054758400) (by decide)
  have hop : ∀ t w, (binOp .mul t (.float .f64 b) (.float .f64 4616189618054758400)).run Tryd.prog w = .ok (.float .f64 q) w := fun t w => run_float_arith w .mul t .f64 b _ q hq
  have hqb : quarterB b = feq q (truncW q) := by unfold quarterB; rw [hq]
  have HQ := Lib.hid hqb
  have HM := Lib.hid hq
  have HN := Lib.hid hn
  clear hqb hq hn
  go_enter Tryd.func33, Tryd.ntmps33
  go_wp2_with (go_at_call 18; refine (trunc_any q _ HN.out).mono ?_; rintro e w' ⟨rfl, rfl⟩)
  go_ret
  exact ⟨ret_bool (by rw [HQ.out]; exact feq_comm _ _), rfl⟩
end Go.Proofs.YtcpbanekjncekaaDoor
