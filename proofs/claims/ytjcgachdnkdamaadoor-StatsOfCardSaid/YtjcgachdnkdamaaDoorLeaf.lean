/- The contracts of the metric layer's leaves and of math's tests, program and reference: each Go function returns what its plain function of the bits says, and the world stays. Conditions: as each theorem's hypotheses say. -/
import Derived.Test.YtjcgachdnkdamaaDoorRows
import Derived.Test.YtjcgachdnkdamaaDoorFlb
import Derived.WalkSpells
import Derived.Lib.Hide
namespace Go.Proofs.YtjcgachdnkdamaaDoor
open Go.RowKit Flt

theorem bits_ext (b : Nat) (w : World) : (callFunc 47 #[.float .f64 b]).run Tryd.prog w = .ok (.value (.int .u64 b)) w := by
  rw [run_callFunc_extern (e := Extern.MathFloatBits.float64bits) Tryd.func47 (by kernel_rfl) (by kernel_rfl) (by kernel_rfl) (by kernel_rfl)]
  rfl
theorem frombits_ext (n : Int) (w : World) : (callFunc 54 #[.int .u64 n]).run Tryd.prog w = .ok (.value (.float .f64 n.toNat)) w := by
  rw [run_callFunc_extern (e := Extern.MathFloatBits.float64frombits) Tryd.func54 (by kernel_rfl) (by kernel_rfl) (by kernel_rfl) (by kernel_rfl)]
  rfl
theorem trunc_ext (b : Nat) (h : isnan b = false) (w : World) : (callFunc 79 #[.float .f64 b]).run Tryd.prog w = .ok (.value (.float .f64 (truncW b))) w := by
  rw [run_callFunc_extern (e := Extern.MathFloor.toIntegral "math.archTrunc" .zero) Tryd.func79 (by kernel_rfl) (by kernel_rfl) (by kernel_rfl) (by kernel_rfl)]
  rw [toIntegral_notnan _ _ h]
  rfl

set_option maxHeartbeats 400000 in
theorem isnan_any (b : Nat) (w : World) : Calls Tryd.prog 28 #[.float .f64 b] w fun e w' => e = .returned (.bool (isnan b)) ∧ w' = w := by
  have hs : (!feq b b) = isnan b := by rw [feq_self]; simp
  go_enter Tryd.func28, Tryd.ntmps28
  go_wp2
  go_ret
  exact ⟨rfl, rfl⟩
set_option maxHeartbeats 400000 in
theorem cisnan_any (b : Nat) (w : World) : Calls Tryd.prog 70 #[.float .f64 b] w fun e w' => e = .returned (.bool (isnan b)) ∧ w' = w := by
  have hs : (!feq b b) = isnan b := by rw [feq_self]; simp
  go_enter Tryd.func70, Tryd.ntmps70
  go_wp2
  go_ret
  exact ⟨rfl, rfl⟩
set_option maxHeartbeats 400000 in
theorem rnan_any (b : Nat) (w : World) : Calls Tryd.prog 60 #[.float .f64 b] w fun e w' => e = .returned (.bool (isnan b)) ∧ w' = w := by
  have hs : (!feq b b) = isnan b := by rw [feq_self]; simp
  go_enter Tryd.func60, Tryd.ntmps60
  go_wp2
  go_ret
  exact ⟨rfl, rfl⟩

/-- what Go's Signbit asks of the bits -/
theorem sgn_i64 (b : Nat) (h : b < 18446744073709551616) : (wrap64 (b : Int) < 0) ↔ sgn b = true := by
  unfold sgn wrap64
  by_cases h1 : b < 9223372036854775808
  · have : b / 9223372036854775808 = 0 := by omega
    rw [this]
    constructor
    · intro h; omega
    · intro h; cases h
  · have : b / 9223372036854775808 = 1 := by omega
    rw [this]
    exact ⟨fun _ => rfl, fun _ => by omega⟩
theorem ret_bool {a b : Bool} (h : a = b) : Ending.returned (.bool a) = .returned (.bool b) := by rw [h]
theorem ret_int {k : IntKind} {a b : Int} (h : a = b) : Ending.returned (.int k a) = .returned (.int k b) := by rw [h]
theorem ret_float {a b : Nat} (h : a = b) : Ending.returned (.float .f64 a) = .returned (.float .f64 b) := by rw [h]
theorem andNot63 (b : Nat) (h : b < 18446744073709551616) : (bits .andNot .u64 (b : Int) 9223372036854775808).toNat = rung b := by
  have e : bits .andNot .u64 (b : Int) 9223372036854775808 = IntKind.u64.wrap ((BitVec.ofInt 64 (b : Int) &&& ~~~(BitVec.ofInt 64 9223372036854775808)).toNat : Int) := rfl
  have hb : (BitVec.ofInt 64 (b : Int)).toNat = b := by rw [BitVec.ofInt_natCast, BitVec.toNat_ofNat]; exact Nat.mod_eq_of_lt (by omega)
  have hc : (~~~(BitVec.ofInt 64 9223372036854775808)).toNat = 2 ^ 63 - 1 := by decide
  rw [e, BitVec.toNat_and, hb, hc, Nat.and_two_pow_sub_one_eq_mod, IntKind.wrap_u64]
  unfold rung
  omega
theorem shr63 (b : Nat) (h : b < 18446744073709551616) : (((b : Int) / 9223372036854775808) == 1) = sgn b := by
  unfold sgn
  have h2 : b / 9223372036854775808 < 2 := by omega
  have e : (b : Int) / 9223372036854775808 = ((b / 9223372036854775808 : Nat) : Int) := by omega
  rw [e]
  generalize b / 9223372036854775808 = q at h2 ⊢
  have : q = 0 ∨ q = 1 := by omega
  rcases this with rfl | rfl <;> rfl
set_option maxHeartbeats 400000 in
theorem abs_any (b : Nat) (w : World) (h : b < 18446744073709551616) : Calls Tryd.prog 34 #[.float .f64 b] w fun e w' => e = .returned (.float .f64 (absW b)) ∧ w' = w := by
  have hb := bits_ext b
  have hf := frombits_ext
  go_enter Tryd.func34, Tryd.ntmps34
  go_wp2
  go_ret
  exact ⟨ret_float (andNot63 b h), rfl⟩
set_option maxHeartbeats 400000 in
theorem isinf0_any (b : Nat) (w : World) (h : b < 18446744073709551616) : Calls Tryd.prog 36 #[.float .f64 b, .int .i64 0] w fun e w' => e = .returned (.bool (isinf b)) ∧ w' = w := by
  go_enter Tryd.func36, Tryd.ntmps36
  go_wp2_with (go_at_call 34; refine (abs_any _ _ h).mono ?_; rintro e w' ⟨rfl, rfl⟩)
  go_ret
  exact ⟨ret_bool (inf_abs b), rfl⟩
set_option maxHeartbeats 400000 in
theorem isinf1_any (b : Nat) (w : World) : Calls Tryd.prog 36 #[.float .f64 b, .int .i64 1] w fun e w' => e = .returned (.bool (isPinf b)) ∧ w' = w := by
  go_enter Tryd.func36, Tryd.ntmps36
  go_wp2
  go_ret
  exact ⟨ret_bool (inf_plus b), rfl⟩
set_option maxHeartbeats 400000 in
theorem trunc_any (b : Nat) (w : World) (h : isnan b = false) : Calls Tryd.prog 71 #[.float .f64 b] w fun e w' => e = .returned (.float .f64 (truncW b)) ∧ w' = w := by
  have hb := trunc_ext b h
  go_enter Tryd.func71, Tryd.ntmps71
  go_wp2
  go_ret
  exact ⟨rfl, rfl⟩
end Go.Proofs.YtjcgachdnkdamaaDoor
