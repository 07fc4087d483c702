/- The remainder of a whole float by 2, by taking away its greatest power of two again and again: the exponent field of a whole float, powers of two. Plain Lean: no program. Condition: none beyond each theorem's own hypotheses. -/
import Derived.Test.YtcpbanekjncekaaFlr
import Derived.Laws.BitsAllLaws
namespace Flt
open Ieee Go

/-- the exponent field of a whole number from 1 on -/
theorem expo {x : Nat} {n : Nat} (h : IsQ x (4 * (n : Int))) (h1 : 1 ≤ n) : rung x / 4503599627370496 = 1023 + n.log2 := by
  obtain ⟨M, E, k1, k2, k3, k4⟩ := mval_parts (rung x)
  have hv : mval (rung x) = n * 2 ^ K := by
    rw [h.val, K_Q1, show (4 * (n : Int)).natAbs = 4 * n by omega]; simp only [Nat.mul_left_comm, Nat.mul_assoc]
  have hK := K_eq
  have hM : M ≠ 0 := by
    rintro rfl
    have := Nat.two_pow_pos K
    have : 0 < n * 2 ^ K := Nat.mul_pos (by omega) this
    rw [k1] at hv; omega
  have hl : M.log2 + E = n.log2 + K := by
    have := congrArg Nat.log2 (k1.symm.trans hv)
    rw [log2_mul_pow M E hM, log2_mul_pow n K (by omega)] at this
    exact this
  have hML : M.log2 ≤ 52 := by
    have := (Nat.log2_lt hM (k := 53)).2 (by omega); omega
  have hM2 : 4503599627370496 ≤ M := by
    rcases k4 with k4 | k4
    · omega
    · exact k4
  have hM3 : M.log2 = 52 := by
    have := (Nat.le_log2 hM (k := 52)).2 (by omega); omega
  omega

/-- 2^j as a float -/
def pow2 (j : Nat) : Nat := (1023 + j) * 4503599627370496
theorem pow2_isQ (j : Nat) (hj : j < 50) : IsQ (pow2 j) (4 * ((2 ^ j : Nat) : Int)) := by
  have hK := K_eq
  have hlt : pow2 j < 9223372036854775808 := by unfold pow2; omega
  have hr : rung (pow2 j) = pow2 j := by unfold rung; exact Nat.mod_eq_of_lt hlt
  refine ⟨by omega, by rw [hr]; unfold pow2 infR; omega, ?_, ?_⟩
  · have : pow2 j / 9223372036854775808 = 0 := by omega
    unfold sgn; rw [this]; symm
    have := Nat.two_pow_pos j
    exact decide_eq_false (by omega)
  · rw [hr]
    have e : pow2 j = (K - 52 + j) * 4503599627370496 + 4503599627370496 := by unfold pow2; omega
    rw [e, mval_of_parts _ _ (by omega) (.inr (by omega)), show (4 * ((2 ^ j : Nat) : Int)).natAbs = 4 * 2 ^ j by omega]
    unfold Q1
    rw [show (4503599627370496 : Nat) = 4 * 2 ^ 50 from rfl, Nat.mul_assoc, Nat.mul_assoc, ← Nat.pow_add, ← Nat.pow_add]
    congr 2; omega

theorem one_mul_pow2 (j : Nat) (hj : j < 50) : double.mul 4607182418800017408 (pow2 j) = some (pow2 j) := by
  have h := pow2_isQ j hj
  have hlt : pow2 j < 9223372036854775808 := by unfold pow2; omega
  have hr : rung (pow2 j) = pow2 j := by unfold rung; exact Nat.mod_eq_of_lt hlt
  rw [mul_exact one_isQ.fin h.fin (pow2 j) (by have := h.fin; rw [hr] at this; omega) (by rw [hr, one_isQ.val, K_Q1, show (4 : Int).natAbs = 4 from rfl, Nat.mul_comm (mval (pow2 j))])]
  have hp := Nat.two_pow_pos j
  rw [one_isQ.sg, h.sg, decide_eq_false (show ¬ (4 * ((2 ^ j : Nat) : Int) < 0) by omega)]
  rfl

theorem two_isQ : IsQ 4611686018427387904 8 := by
  have := pow2_isQ 1 (by omega)
  exact this

/-- what is left when the greatest power of two is taken away -/
def rest2 (n : Nat) : Nat := n - 2 ^ n.log2
theorem rest2_lt {n : Nat} (h : 1 ≤ n) : rest2 n < n := by
  have := Nat.two_pow_pos n.log2
  have := Nat.log2_self_le (n := n) (by omega)
  unfold rest2; omega
theorem rest2_mod {n : Nat} (h : 2 ≤ n) : rest2 n % 2 = n % 2 := by
  have h1 := Nat.log2_self_le (n := n) (by omega)
  have h2 := (Nat.le_log2 (n := n) (by omega) (k := 1)).2 (by omega)
  have h3 : 2 ^ n.log2 = 2 * 2 ^ (n.log2 - 1) := by
    rw [show n.log2 = (n.log2 - 1) + 1 by omega, Nat.pow_succ, Nat.add_sub_cancel]; omega
  unfold rest2; omega
theorem sub_rest2 {x n : Nat} (h : IsQ x (4 * (n : Int))) (h1 : 1 ≤ n) (h2 : n < 1125899906842624) : ∃ c, double.sub x (pow2 n.log2) = some c ∧ IsQ c (4 * (rest2 n : Int)) := by
  have hl := (Nat.log2_lt (n := n) (by omega) (k := 50)).2 (by omega)
  have h3 := Nat.log2_self_le (n := n) (by omega)
  have hnp := Nat.two_pow_pos n.log2
  generalize hP : 2 ^ n.log2 = P at *
  have hq := pow2_isQ n.log2 hl
  rw [hP] at hq
  obtain ⟨c, g1, g2⟩ := h.sub hq (by omega)
  refine ⟨c, g1, ?_⟩
  have e : 4 * (n : Int) - 4 * (P : Int) = 4 * (rest2 n : Int) := by unfold rest2; rw [hP]; omega
  rwa [e] at g2

/-- the field's bits -/
theorem and_mask (a : Nat) (h : a < 2048) : a &&& 2047 = a := by
  have := Nat.and_two_pow_sub_one_eq_mod a 11
  rw [show (2047 : Nat) = 2 ^ 11 - 1 from rfl, this]; exact Nat.mod_eq_of_lt h
theorem clear_expo (x : Nat) (h : x < 9223372036854775808) : x &&& (18446744073709551615 - 9218868437227405312) = x % 4503599627370496 := by
  -- the top bit is not set, the mask keeps it and the fraction
  apply Nat.eq_of_testBit_eq
  intro i
  rw [Nat.testBit_and, show (4503599627370496 : Nat) = 2 ^ 52 from rfl, Nat.testBit_mod_two_pow]
  by_cases h1 : i < 52
  · have : Nat.testBit (18446744073709551615 - 9218868437227405312) i = true := by
      have hi : ∀ j : Fin 52, Nat.testBit (18446744073709551615 - 9218868437227405312) j = true := by decide
      exact hi ⟨i, h1⟩
    rw [this]; simp [h1]
  · by_cases h2 : i < 63
    · have : Nat.testBit (18446744073709551615 - 9218868437227405312) i = false := by
        have hi : ∀ j : Fin 63, ¬ (j : Nat) < 52 → Nat.testBit (18446744073709551615 - 9218868437227405312) j = false := by decide
        exact hi ⟨i, h2⟩ h1
      rw [this]; simp [h1]
    · have : Nat.testBit x i = false := Nat.testBit_lt_two_pow (Nat.lt_of_lt_of_le h (by
        have : (9223372036854775808 : Nat) = 2 ^ 63 := rfl
        rw [this]; exact Nat.pow_le_pow_right (by omega) (by omega)))
      rw [this]; simp [h1]
end Flt
namespace Flt
open Ieee Go
/-- the fraction field; the fraction between a half and one -/
def mfr (x : Nat) : Nat := x % 4503599627370496
def ffr (x : Nat) : Nat := 4602678819172646912 + mfr x
theorem mfr_lt (x : Nat) : mfr x < 4503599627370496 := Nat.mod_lt _ (by omega)
/-- a normal positive word -/
structure Nrm (x j : Nat) : Prop where make ::
  lt : x < 9223372036854775808
  ex : x / 4503599627370496 = 1023 + j
  jl : j < 50
theorem Nrm.bits_and {x j : Nat} (h : Nrm x j) : bits .and .u64 ((x : Int) / 4503599627370496) 2047 = ((1023 + j : Nat) : Int) := by
  have e : (x : Int) / 4503599627370496 = ((1023 + j : Nat) : Int) := by have := h.ex; omega
  have hj := h.jl
  rw [e, show (2047 : Int) = ((2047 : Nat) : Int) from rfl, u64_and_nat _ _ (by omega) (by omega), and_mask _ (by omega)]
theorem Nrm.bits_clear {x j : Nat} (h : Nrm x j) : bits .andNot .u64 (x : Int) 9218868437227405312 = (mfr x : Int) := by
  have hl := h.lt
  rw [show (9218868437227405312 : Int) = ((9218868437227405312 : Nat) : Int) from rfl, u64_andNot_nat _ _ (by omega) (by omega), clear_expo x hl]; rfl
theorem bits_set (x : Nat) : bits .or .u64 (mfr x : Int) 4602678819172646912 = (ffr x : Int) := by
  have hm := mfr_lt x
  rw [show (4602678819172646912 : Int) = ((4602678819172646912 : Nat) : Int) from rfl, u64_or_nat _ _ (by omega) (by omega), Nat.or_comm,
    nat_join 52 4602678819172646912 (mfr x) (by decide) hm]; rfl
theorem Nrm.tests {x j : Nat} (h : Nrm x j) : isnan x = false ∧ isinf x = false ∧ sgn x = false ∧ rung x = x ∧ feq x 0 = false ∧ flt x 4503599627370496 = false ∧ flt (absW x) 4503599627370496 = false := by
  have hl := h.lt
  have he := h.ex
  have hj := h.jl
  have hr : rung x = x := by unfold rung; exact Nat.mod_eq_of_lt hl
  have hn : isnan x = false := by rw [nan_rung', hr]; omega
  have hs : sgn x = false := by have : x / 9223372036854775808 = 0 := by omega
                                unfold sgn; rw [this]; rfl
  have hk : key x = x := by unfold key; rw [hs, hr]; simp
  have k0 : key 0 = 0 := by decide
  have k1 : key 4503599627370496 = 4503599627370496 := by decide
  have n0 : isnan 0 = false := by decide
  have n1 : isnan 4503599627370496 = false := by decide
  have hf : flt x 4503599627370496 = false := by rw [flt_of hn n1, hk, k1]; exact decide_eq_false (by omega)
  refine ⟨hn, ?_, hs, hr, ?_, hf, ?_⟩
  · unfold isinf; rw [hr]; exact decide_eq_false (by unfold infR; omega)
  · rw [feq_of hn n0, hk, k0]; exact decide_eq_false (by omega)
  · unfold absW; rw [hr]; exact hf
theorem IsQ.nrm {x n : Nat} (h : IsQ x (4 * (n : Int))) (h1 : 1 ≤ n) (h2 : n < 1125899906842624) : Nrm x n.log2 := by
  have hs := h.sg
  have hl := h.lt
  have hlt : x < 9223372036854775808 := by
    rcases Nat.lt_or_ge x 9223372036854775808 with h | h
    · exact h
    · have : x / 9223372036854775808 = 1 := by omega
      unfold sgn at hs; rw [this] at hs
      have : decide (4 * (n : Int) < 0) = false := decide_eq_false (by omega)
      rw [this] at hs; cases hs
  have hr : rung x = x := by unfold rung; exact Nat.mod_eq_of_lt hlt
  refine ⟨hlt, ?_, (Nat.log2_lt (n := n) (by omega) (k := 50)).2 (by omega)⟩
  have := expo h h1
  rwa [hr] at this
/-- a fraction is not below a half -/
theorem ffr_half (x : Nat) : flt (ffr x) 4602678819172646912 = false := by
  have hm := mfr_lt x
  have hr : rung (ffr x) = ffr x := by unfold rung; exact Nat.mod_eq_of_lt (by unfold ffr; omega)
  have hn : isnan (ffr x) = false := by rw [nan_rung', hr]; unfold ffr; omega
  have hs : sgn (ffr x) = false := by have : ffr x / 9223372036854775808 = 0 := by unfold ffr; omega
                                      unfold sgn; rw [this]; rfl
  have hk : key (ffr x) = ffr x := by unfold key; rw [hs, hr]; simp
  have k1 : key 4602678819172646912 = 4602678819172646912 := by decide
  rw [flt_of hn (by decide), hk, k1]; exact decide_eq_false (by unfold ffr; omega)
end Flt
