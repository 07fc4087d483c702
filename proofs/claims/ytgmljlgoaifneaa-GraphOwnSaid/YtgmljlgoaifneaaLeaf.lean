/- The contracts of the metric layer's leaves and of math's tests, program and reference: each Go function returns what its plain function of the bits says, and the world stays. Conditions: as each theorem's hypotheses say. -/
import Derived.Test.YtgmljlgoaifneaaRows
import Derived.Test.YtgmljlgoaifneaaFlb
import Derived.WalkSpells
import Derived.Lib.Hide
namespace Go.Proofs.Ytgmljlgoaifneaa
open Go.RowKit Flt

theorem bits_ext (b : Nat) (w : World) : (callFunc 51 #[.float .f64 b]).run Try.prog w = .ok (.value (.int .u64 b)) w := by
  rw [run_callFunc_extern (e := Extern.MathFloatBits.float64bits) Try.func51 (by kernel_rfl) (by kernel_rfl) (by kernel_rfl) (by kernel_rfl)]
  rfl
theorem frombits_ext (n : Int) (w : World) : (callFunc 97 #[.int .u64 n]).run Try.prog w = .ok (.value (.float .f64 n.toNat)) w := by
  rw [run_callFunc_extern (e := Extern.MathFloatBits.float64frombits) Try.func97 (by kernel_rfl) (by kernel_rfl) (by kernel_rfl) (by kernel_rfl)]
  rfl
theorem trunc_ext (b : Nat) (h : isnan b = false) (w : World) : (callFunc 98 #[.float .f64 b]).run Try.prog w = .ok (.value (.float .f64 (truncW b))) w := by
  rw [run_callFunc_extern (e := Extern.MathFloor.toIntegral "math.archTrunc" .zero) Try.func98 (by kernel_rfl) (by kernel_rfl) (by kernel_rfl) (by kernel_rfl)]
  rw [toIntegral_notnan _ _ h]
  rfl

set_option maxHeartbeats 400000 in
theorem isnan_any (b : Nat) (w : World) : Calls Try.prog 58 #[.float .f64 b] w fun e w' => e = .returned (.bool (isnan b)) ∧ w' = w := by
  have hs : (!feq b b) = isnan b := by rw [feq_self]; simp
  go_enter Try.func58, Try.ntmps58
  go_wp2
  go_ret
  exact ⟨rfl, rfl⟩
set_option maxHeartbeats 400000 in
theorem rnan_any (b : Nat) (w : World) : Calls Try.prog 62 #[.float .f64 b] w fun e w' => e = .returned (.bool (isnan b)) ∧ w' = w := by
  have hs : (!feq b b) = isnan b := by rw [feq_self]; simp
  go_enter Try.func62, Try.ntmps62
  go_wp2
  go_ret
  exact ⟨rfl, rfl⟩

/-- what Go's Signbit asks of the bits -/
theorem sgn_i64 (b : Nat) (h : b < 18446744073709551616) : (wrap64 (b : Int) < 0) ↔ sgn b = true := by
  unfold sgn wrap64
  by_cases h1 : b < 9223372036854775808
  · have : b / 9223372036854775808 = 0 := by omega
    rw [this]
    constructor
    · intro h; omega
    · intro h; cases h
  · have : b / 9223372036854775808 = 1 := by omega
    rw [this]
    exact ⟨fun _ => rfl, fun _ => by omega⟩
theorem ret_bool {a b : Bool} (h : a = b) : Ending.returned (.bool a) = .returned (.bool b) := by rw [h]
theorem ret_int {k : IntKind} {a b : Int} (h : a = b) : Ending.returned (.int k a) = .returned (.int k b) := by rw [h]
theorem ret_float {a b : Nat} (h : a = b) : Ending.returned (.float .f64 a) = .returned (.float .f64 b) := by rw [h]
theorem andNot63 (b : Nat) (h : b < 18446744073709551616) : (bits .andNot .u64 (b : Int) 9223372036854775808).toNat = rung b := by
  have e : bits .andNot .u64 (b : Int) 9223372036854775808 = IntKind.u64.wrap ((BitVec.ofInt 64 (b : Int) &&& ~~~(BitVec.ofInt 64 9223372036854775808)).toNat : Int) := rfl
  have hb : (BitVec.ofInt 64 (b : Int)).toNat = b := by rw [BitVec.ofInt_natCast, BitVec.toNat_ofNat]; exact Nat.mod_eq_of_lt (by omega)
  have hc : (~~~(BitVec.ofInt 64 9223372036854775808)).toNat = 2 ^ 63 - 1 := by decide
  rw [e, BitVec.toNat_and, hb, hc, Nat.and_two_pow_sub_one_eq_mod, IntKind.wrap_u64]
  unfold rung
  omega
theorem shr63 (b : Nat) (h : b < 18446744073709551616) : (((b : Int) / 9223372036854775808) == 1) = sgn b := by
  unfold sgn
  have h2 : b / 9223372036854775808 < 2 := by omega
  have e : (b : Int) / 9223372036854775808 = ((b / 9223372036854775808 : Nat) : Int) := by omega
  rw [e]
  generalize b / 9223372036854775808 = q at h2 ⊢
  have : q = 0 ∨ q = 1 := by omega
  rcases this with rfl | rfl <;> rfl
set_option maxHeartbeats 400000 in
theorem signbit_any (b : Nat) (w : World) (h : b < 18446744073709551616) : Calls Try.prog 60 #[.float .f64 b] w fun e w' => e = .returned (.bool (sgn b)) ∧ w' = w := by
  have hb := bits_ext b
  go_enter Try.func60, Try.ntmps60
  go_wp2
  go_ret
  refine ⟨ret_bool ?_, rfl⟩
  have := sgn_i64 b h
  cases hs : sgn b <;> simp [hs] at this ⊢ <;> exact this
set_option maxHeartbeats 400000 in
theorem rsign_any (b : Nat) (w : World) (h : b < 18446744073709551616) : Calls Try.prog 64 #[.float .f64 b] w fun e w' => e = .returned (.bool (sgn b)) ∧ w' = w := by
  have hb := bits_ext b
  go_enter Try.func64, Try.ntmps64
  go_wp2
  go_ret
  exact ⟨ret_bool (shr63 b h), rfl⟩
set_option maxHeartbeats 400000 in
theorem abs_any (b : Nat) (w : World) (h : b < 18446744073709551616) : Calls Try.prog 85 #[.float .f64 b] w fun e w' => e = .returned (.float .f64 (absW b)) ∧ w' = w := by
  have hb := bits_ext b
  have hf := frombits_ext
  go_enter Try.func85, Try.ntmps85
  go_wp2
  go_ret
  exact ⟨ret_float (andNot63 b h), rfl⟩
set_option maxHeartbeats 400000 in
theorem rinf_any (b : Nat) (w : World) : Calls Try.prog 63 #[.float .f64 b] w fun e w' => e = .returned (.bool (isinf b)) ∧ w' = w := by
  go_enter Try.func63, Try.ntmps63
  go_wp2
  all_goals
    go_ret
    refine ⟨ret_bool ?_, rfl⟩
    rw [← inf_tests b]
    unfold maxf nmaxf
    simp [*]
set_option maxHeartbeats 400000 in
theorem isinf0_any (b : Nat) (w : World) (h : b < 18446744073709551616) : Calls Try.prog 59 #[.float .f64 b, .int .i64 0] w fun e w' => e = .returned (.bool (isinf b)) ∧ w' = w := by
  go_enter Try.func59, Try.ntmps59
  go_wp2_with (go_at_call 85; refine (abs_any _ _ h).mono ?_; rintro e w' ⟨rfl, rfl⟩)
  go_ret
  exact ⟨ret_bool (inf_abs b), rfl⟩
set_option maxHeartbeats 400000 in
theorem isinf1_any (b : Nat) (w : World) : Calls Try.prog 59 #[.float .f64 b, .int .i64 1] w fun e w' => e = .returned (.bool (isPinf b)) ∧ w' = w := by
  go_enter Try.func59, Try.ntmps59
  go_wp2
  go_ret
  exact ⟨ret_bool (inf_plus b), rfl⟩
set_option maxHeartbeats 400000 in
theorem same_any (a b : Nat) (w : World) : Calls Try.prog 34 #[.float .f64 a, .float .f64 b] w fun e w' => e = .returned (.bool (a == b)) ∧ w' = w := by
  have hb := bits_ext
  go_enter Try.func34, Try.ntmps34
  go_wp2
  go_ret
  refine ⟨ret_bool ?_, rfl⟩
  rw [Bool.eq_iff_iff]; simp; omega
set_option maxHeartbeats 400000 in
theorem trunc_any (b : Nat) (w : World) (h : isnan b = false) : Calls Try.prog 86 #[.float .f64 b] w fun e w' => e = .returned (.float .f64 (truncW b)) ∧ w' = w := by
  have hb := trunc_ext b h
  go_enter Try.func86, Try.ntmps86
  go_wp2
  go_ret
  exact ⟨rfl, rfl⟩
set_option maxHeartbeats 400000 in
theorem quarter_any (b : Nat) (w : World) (h1 : isnan b = false) (h2 : isinf b = false) : Calls Try.prog 61 #[.float .f64 b] w fun e w' => e = .returned (.bool (quarterB b)) ∧ w' = w := by
  have hfin : rung b < infR := by
    have a1 := (nan_rung' b).1 h1
    have a2 : ¬ rung b = infR := by simpa [isinf] using h2
    unfold infR at *; omega
  clear h1 h2
  obtain ⟨q, hq, hn, _⟩ := mul_some hfin (y := 4616189618054758400) (by decide)
  have hop : ∀ t w, (binOp .mul t (.float .f64 b) (.float .f64 4616189618054758400)).run Try.prog w = .ok (.float .f64 q) w := fun t w => run_float_arith w .mul t .f64 b _ q hq
  have hqb : quarterB b = feq q (truncW q) := by unfold quarterB; rw [hq]
  have HQ := Lib.hid hqb
  have HM := Lib.hid hq
  have HN := Lib.hid hn
  clear hqb hq hn
  go_enter Try.func61, Try.ntmps61
  go_wp2_with (go_at_call 86; refine (trunc_any q _ HN.out).mono ?_; rintro e w' ⟨rfl, rfl⟩)
  go_ret
  exact ⟨ret_bool (by rw [HQ.out]), rfl⟩
set_option maxHeartbeats 400000 in
theorem rquarter_any (b : Nat) (w : World) (h1 : isnan b = false) (h2 : isinf b = false) : Calls Try.prog 65 #[.float .f64 b] w fun e w' => e = .returned (.bool (quarterB b)) ∧ w' = w := by
  have hfin : rung b < infR := by
    have a1 := (nan_rung' b).1 h1
    have a2 : ¬ rung b = infR := by simpa [isinf] using h2
    unfold infR at *; omega
  clear h1 h2
  obtain ⟨q, hq, hn, _⟩ := mul_some hfin (y := 4616189618054758400) (by decide)
  have hop : ∀ t w, (binOp .mul t (.float .f64 b) (.float .f64 4616189618054758400)).run Try.prog w = .ok (.float .f64 q) w := fun t w => run_float_arith w .mul t .f64 b _ q hq
  have hqb : quarterB b = feq q (truncW q) := by unfold quarterB; rw [hq]
  have HQ := Lib.hid hqb
  have HM := Lib.hid hq
  have HN := Lib.hid hn
  clear hqb hq hn
  go_enter Try.func65, Try.ntmps65
  go_wp2_with (go_at_call 86; refine (trunc_any q _ HN.out).mono ?_; rintro e w' ⟨rfl, rfl⟩)
  go_ret
  exact ⟨ret_bool (by rw [HQ.out]; exact feq_comm _ _), rfl⟩
end Go.Proofs.Ytgmljlgoaifneaa
