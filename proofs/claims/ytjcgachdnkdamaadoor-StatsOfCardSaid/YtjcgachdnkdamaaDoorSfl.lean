/- A float to the thousandth: the rounded product's bound, its floor as an integer, and the text; the sum that is made good. Plain Lean: no program. Condition: none beyond each theorem's own hypotheses. -/
import Derived.Test.YtjcgachdnkdamaaDoorTxt
import Derived.Lib.ItoaLen
import Derived.WalkKit
namespace Flt
open Ieee Go

/-- A ROUNDED NUMBER IS NOT FAR ABOVE -/
theorem nearest_bound (s : Bool) (m a b t : Nat) (hm : m ≠ 0) (h : m * 2 ^ a < 2 ^ t * 2 ^ b) (pl : Int) (hpl : pl = -1074 + a - b) : ∃ r, double.nearest s m pl = mk s r ∧ r ≤ infR ∧ mval r ≤ 2 ^ (max t 53) := by
  have hL1 : 2 ^ m.log2 ≤ m := (Nat.le_log2 hm).1 (Nat.le_refl _)
  have hL2 : m < 2 ^ (m.log2 + 1) := (Nat.log2_lt hm).1 (Nat.lt_succ_self _)
  have hL : m.log2 + a < t + b := by
    have h2 : 2 ^ (m.log2 + a) < 2 ^ (t + b) := by
      rw [Nat.pow_add, Nat.pow_add]
      exact Nat.lt_of_le_of_lt (Nat.mul_le_mul_right _ hL1) h
    exact (Nat.pow_lt_pow_iff_right (by omega)).1 h2
  rw [nearest_def s m pl hm, word_eq]
  generalize hla : max (pl + m.log2 - 52) (-1074) = last
  obtain ⟨E, hE⟩ : ∃ E : Nat, last = -1074 + (E : Int) := ⟨(last + 1074).toNat, by omega⟩
  have e0 : (last + 1074).toNat = E := by omega
  have hEb : E + 53 ≤ max t 53 := by omega
  rw [e0, Nat.shiftLeft_eq]
  have hC : Toward.even.cut s (m * 2 ^ (pl - last).toNat) (last - pl).toNat ≤ 9007199254740992 := by
    rw [cut_even]
    by_cases hc : last ≤ pl
    · have hd : (last - pl).toNat = 0 := by omega
      rw [hd]
      have hn : m * 2 ^ (pl - last).toNat < 9007199254740992 := by
        have : m * 2 ^ (pl - last).toNat < 2 ^ (m.log2 + 1) * 2 ^ (pl - last).toNat := Nat.mul_lt_mul_of_pos_right hL2 (Nat.two_pow_pos _)
        rw [← Nat.pow_add] at this
        have h53 : 2 ^ (m.log2 + 1 + (pl - last).toNat) ≤ 2 ^ 53 := Nat.pow_le_pow_right (by omega) (by omega)
        omega
      have : (decide (2 ^ 0 < 2 * (m * 2 ^ (pl - last).toNat % 2 ^ 0)) || 2 ^ 0 == 2 * (m * 2 ^ (pl - last).toNat % 2 ^ 0) && m * 2 ^ (pl - last).toNat / 2 ^ 0 % 2 == 1).toNat ≤ 1 := Bool.toNat_le _
      have e : m * 2 ^ (pl - last).toNat / 2 ^ 0 = m * 2 ^ (pl - last).toNat := by rw [Nat.pow_zero, Nat.div_one]
      omega
    · have hs : (pl - last).toNat = 0 := by omega
      rw [hs, Nat.pow_zero, Nat.mul_one]
      have hn : m / 2 ^ (last - pl).toNat < 9007199254740992 := by
        rw [Nat.div_lt_iff_lt_mul (Nat.two_pow_pos _)]
        have h53 : 2 ^ (m.log2 + 1) ≤ 2 ^ (53 + (last - pl).toNat) := Nat.pow_le_pow_right (by omega) (by omega)
        rw [Nat.pow_add 2 53] at h53
        have h54 : (2 : Nat) ^ 53 = 9007199254740992 := by decide
        rw [h54] at h53
        exact Nat.lt_of_lt_of_le hL2 h53
      have := Bool.toNat_le (decide (2 ^ (last - pl).toNat < 2 * (m % 2 ^ (last - pl).toNat)) || 2 ^ (last - pl).toNat == 2 * (m % 2 ^ (last - pl).toNat) && m / 2 ^ (last - pl).toNat % 2 == 1)
      omega
  generalize Toward.even.cut s (m * 2 ^ (pl - last).toNat) (last - pl).toNat = C at hC ⊢
  refine ⟨_, rfl, Nat.min_le_right _ _, ?_⟩
  have h1 : min (E * 4503599627370496 + C) 9218868437227405312 ≤ (E + 1) * 4503599627370496 + 4503599627370496 := Nat.le_trans (Nat.min_le_left _ _) (by rw [Nat.add_mul]; omega)
  refine Nat.le_trans (mval_le h1) ?_
  rw [mval_of_parts' 4503599627370496 (E + 1) (by omega) (.inr (by omega))]
  have e : (4503599627370496 : Nat) = 2 ^ 52 := by decide
  rw [e, ← Nat.pow_add]
  exact Nat.pow_le_pow_right (by omega) (by omega)

theorem mul_bound {x y : Nat} (hx : rung x < infR) (hy : rung y < infR) (t : Nat) (h : mval (rung x) * mval (rung y) < 2 ^ t * 2 ^ K) :
    ∃ r, double.mul x y = some (mk (sgn x ^^ sgn y) r) ∧ r ≤ infR ∧ mval r ≤ 2 ^ (max t 53) := by
  obtain ⟨m, p, h1, h2, _⟩ := read_fin hx
  obtain ⟨n, q, g1, g2, _⟩ := read_fin hy
  unfold Format.mul
  rw [h1, g1]
  simp only [Datum.product, Option.map_some]
  unfold Format.write
  simp only
  rw [← h2, ← g2] at h
  by_cases h0 : m * n = 0
  · refine ⟨0, ?_, by decide, by rw [mval_zero]; exact Nat.zero_le _⟩
    rw [h0]; unfold Format.nearest; rw [if_pos rfl]; rfl
  · obtain ⟨r, r1, r2, r3⟩ := nearest_bound (sgn x ^^ sgn y) (m * n) (p + q) K t h0 (by
      rw [Nat.pow_add]
      have e : m * n * (2 ^ p * 2 ^ q) = m * 2 ^ p * (n * 2 ^ q) := by simp only [Nat.mul_assoc, Nat.mul_left_comm]
      rw [e]; exact h) (-1074 + p + (-1074 + q)) (by have := K_eq; omega)
    exact ⟨r, by rw [r1], r2, r3⟩

/-- a thousand times the float, made whole, as an integer -/
def mulK (f : Nat) : Nat := match double.mul f 4652007308841189376 with
  | some c => c
  | none => 0
def nS (f : Nat) : Int := match (double.read (floorW (mulK f))).toInt .zero with
  | some n => n
  | none => 0
theorem thousand_val : mval (rung 4652007308841189376) = 1000 * 2 ^ K := by decide +kernel
theorem big_val : mval (rung 4786511204640096256) = 1000000000000 * 2 ^ K := by decide +kernel
theorem floor_fin {c : Nat} (hc : rung c < infR) (hv : mval (rung c) ≤ 2 ^ (K + 50)) : rung (floorW c) < infR ∧ sgn (floorW c) = sgn c ∧ mval (rung (floorW c)) ≤ 2 ^ (K + 51) ∧ isnan (floorW c) = false ∧ floorW c < 18446744073709551616 := by
  have hw : wholeV .down (sgn c) (mval (rung c)) ≤ 2 ^ 50 + 1 := by
    unfold wholeV
    simp only
    have h1 : mval (rung c) / 2 ^ K ≤ 2 ^ 50 := by
      have h2 := Nat.div_le_div_right (c := 2 ^ K) hv
      rw [Nat.pow_add, Nat.mul_div_cancel_left _ (Nat.two_pow_pos K)] at h2
      exact h2
    have := Bool.toNat_le (sgn c && mval (rung c) % 2 ^ K != 0)
    omega
  have e51 : (2 : Nat) ^ 50 + 1 < 9007199254740992 := by decide
  obtain ⟨r, hr⟩ := rep (wholeV .down (sgn c) (mval (rung c))) K (by omega)
  have hrv : mval r ≤ 2 ^ (K + 51) := by
    rw [hr, Nat.add_comm K 51, Nat.pow_add]
    have : (2 : Nat) ^ 50 + 1 ≤ 2 ^ 51 := by decide
    exact Nat.mul_le_mul_right _ (by omega)
  have hri : r < infR := by
    rw [← mval_lt_iff]
    refine Nat.lt_of_le_of_lt hrv ?_
    rw [mval_infR]
    have : (4503599627370496 : Nat) = 2 ^ 52 := by decide
    rw [this, ← Nat.pow_add]
    exact (Nat.pow_lt_pow_iff_right (by omega)).2 (by have := K_eq; have := Ktop_eq; omega)
  have hri' : r < 9218868437227405312 := hri
  have hx := integral_exact .down hc r (Nat.le_of_lt hri) hr.symm
  have hf : floorW c = mk (sgn c) r := hx
  rw [hf, rung_mk (by omega), sgn_mk (by omega)]
  refine ⟨hri, rfl, hrv, ?_, ?_⟩
  · rw [nan_rung', rung_mk (by omega)]; omega
  · unfold mk; split <;> omega
/-- within the bounds: the product is a float, its floor an integer -/
theorem nS_ok {f : Nat} (h : rung f < 4786511204640096256) :
    double.mul f 4652007308841189376 = some (mulK f) ∧ isnan (mulK f) = false ∧ (double.read (floorW (mulK f))).toInt .zero = some (nS f) ∧ -4503599627370496 ≤ nS f ∧ nS f ≤ 4503599627370496 := by
  have hfin : rung f < infR := by unfold infR; omega
  have hv : mval (rung f) < 1000000000000 * 2 ^ K := by
    rw [← big_val, mval_lt_iff]
    have : rung 4786511204640096256 = 4786511204640096256 := by decide
    omega
  have hK := Nat.two_pow_pos K
  have h1000 : mval (rung f) * 1000 < 2 ^ K * 2 ^ 50 := by
    have e : (2 : Nat) ^ 50 = 1125899906842624 := by decide
    rw [e]; omega
  obtain ⟨r, r1, r2, r3⟩ := mul_bound (x := f) (y := 4652007308841189376) hfin (by decide) (K + 50) (by
    rw [thousand_val, ← Nat.mul_assoc, Nat.pow_add]
    exact Nat.mul_lt_mul_of_pos_right h1000 hK)
  have hmx : max (K + 50) 53 = K + 50 := by have := K_eq; omega
  rw [hmx] at r3
  have hri : r < infR := by
    rw [← mval_lt_iff]
    refine Nat.lt_of_le_of_lt r3 ?_
    rw [mval_infR]
    have e : (4503599627370496 : Nat) = 2 ^ 52 := by decide
    rw [e, ← Nat.pow_add]
    exact (Nat.pow_lt_pow_iff_right (by omega)).2 (by have := K_eq; have := Ktop_eq; omega)
  have hri' : r < 9218868437227405312 := hri
  have hc : mulK f = mk (sgn f ^^ sgn 4652007308841189376) r := by unfold mulK; rw [r1]
  have hrc : rung (mulK f) = r := by rw [hc]; exact rung_mk (by omega)
  obtain ⟨f1, f2, f3, f4, f5⟩ := floor_fin (c := mulK f) (by rw [hrc]; exact hri) (by rw [hrc]; exact r3)
  have ht := toInt_fin f1
  have hb : mval (rung (floorW (mulK f))) / 2 ^ K ≤ 2251799813685248 := by
    have h2 := Nat.div_le_div_right (c := 2 ^ K) f3
    rw [Nat.pow_add, Nat.mul_div_cancel_left _ hK] at h2
    have e : (2 : Nat) ^ 51 = 2251799813685248 := by decide
    rw [e] at h2; exact h2
  have hN : nS f = (if sgn (floorW (mulK f)) then -1 else 1) * ((mval (rung (floorW (mulK f))) / 2 ^ K : Nat) : Int) := by unfold nS; rw [ht]
  refine ⟨by rw [r1, hc], by rw [nan_rung', hrc]; omega, by rw [ht, hN], ?_, ?_⟩
  all_goals
    rw [hN]
    generalize mval (rung (floorW (mulK f))) / 2 ^ K = z at hb
    cases sgn (floorW (mulK f)) <;> simp <;> omega
/-- which float is the least of all -/
def isNinf (b : Nat) : Bool := isinf b && sgn b
theorem inf_minus (b : Nat) : flt b nmaxf = isNinf b := by
  have h1 : isnan nmaxf = false := by decide
  cases hn : isnan b
  · rw [flt_of hn h1]
    have h2 : key nmaxf = -9218868437227405311 := by decide
    rw [h2]
    rw [nan_rung'] at hn
    unfold isNinf isinf key infR
    cases sgn b <;> simp <;> omega
  · rw [flt_nan_l _ hn]
    rw [nan_rung] at hn
    unfold isNinf isinf infR
    have : ¬ rung b = 9218868437227405312 := by omega
    simp [this]
theorem small_of {f : Nat} (hn : isnan f = false) (h1 : (fgt f 4786511204640096256 || feq f 4786511204640096256) = false) (h2 : (flt f 14009883241494872064 || feq f 14009883241494872064) = false) : rung f < 4786511204640096256 := by
  have n1 : isnan 4786511204640096256 = false := by decide
  have n2 : isnan 14009883241494872064 = false := by decide
  have k1 : key 4786511204640096256 = 4786511204640096256 := by decide
  have k2 : key 14009883241494872064 = -4786511204640096256 := by decide
  unfold fgt at h1
  rw [flt_of n1 hn, feq_of hn n1, k1] at h1
  rw [flt_of hn n2, feq_of hn n2, k2] at h2
  simp only [Bool.or_eq_false_iff, decide_eq_false_iff_not] at h1 h2
  unfold key at h1 h2
  cases hs : sgn f <;> rw [hs] at h1 h2 <;> simp at h1 h2 <;> omega
/-- three digits -/
def padB (s : ByteArray) : ByteArray := (⟨#[48, 48, 48]⟩ : ByteArray).extract s.size 3 ++ s
def numS (n : Int) : ByteArray := (if n < 0 then ⟨#[45]⟩ else ⟨#[]⟩) ++ itoaB ((n.natAbs / 1000 : Nat) : Int) ++ ⟨#[46]⟩ ++ padB (itoaB ((n.natAbs % 1000 : Nat) : Int))
/-- a float's text, to the thousandth -/
def textS (f : Nat) : ByteArray :=
  if isnan f then ⟨#[110, 97, 110]⟩ else if isPinf f then ⟨#[105, 110, 102]⟩ else if isNinf f then ⟨#[45, 105, 110, 102]⟩
  else if fgt f 4786511204640096256 || feq f 4786511204640096256 then ⟨#[98, 105, 103]⟩
  else if flt f 14009883241494872064 || feq f 14009883241494872064 then ⟨#[45, 98, 105, 103]⟩
  else numS (nS f)
theorem ba_mk_size (l : List UInt8) : (⟨l.toArray⟩ : ByteArray).size = l.length := by
  show (List.toArray l).size = _
  rw [List.size_toArray]
theorem itoaB_size (n : Nat) : (itoaB (n : Int)).size = (Lib.decDigits n).length := by
  unfold itoaB; rw [Lib.itoa_nonneg, ba_mk_size]
theorem dec_len3 (r : Nat) (h : r < 1000) : 1 ≤ (Lib.decDigits r).length ∧ (Lib.decDigits r).length ≤ 3 ∧ ((Lib.decDigits r).length = 1 → r < 10) := by
  rw [Lib.decDigits]
  split
  · rename_i h1; exact ⟨by simp, by simp, fun _ => h1⟩
  · rw [Lib.decDigits]
    split
    · simp
    · rw [Lib.decDigits, dif_pos (by omega)]
      simp
theorem xor63 (r : Nat) (h : r < 9223372036854775808) : r ^^^ 9223372036854775808 = 9223372036854775808 + r := by
  have e : (9223372036854775808 : Nat) = 2 ^ 63 := by decide
  rw [e] at h ⊢
  apply Nat.eq_of_testBit_eq
  intro i
  rw [Nat.testBit_xor, Nat.testBit_two_pow]
  rcases Nat.lt_trichotomy i 63 with hi | hi | hi
  · rw [Nat.testBit_two_pow_add_gt hi, decide_eq_false (by omega : ¬ 63 = i)]; simp
  · subst hi
    rw [Nat.testBit_two_pow_add_eq, decide_eq_true rfl]; simp
  · have h2 : 2 ^ 64 ≤ 2 ^ i := Nat.pow_le_pow_right (by omega) (by omega)
    have e64 : (2 : Nat) ^ 64 = 2 ^ 63 + 2 ^ 63 := by decide
    rw [Nat.testBit_lt_two_pow (by omega : r < 2 ^ i), Nat.testBit_lt_two_pow (by omega : 2 ^ 63 + r < 2 ^ i), decide_eq_false (by omega : ¬ 63 = i)]; rfl
theorem negFloat_eq (b : Nat) (h : b < 18446744073709551616) : Go.Op.negFloat .f64 b = negW b := by
  have e : Go.Op.negFloat .f64 b = b ^^^ 9223372036854775808 := rfl
  have hm := mk_eta h
  have hr := rung_lt b
  rw [e]
  unfold negW
  cases hs : sgn b
  · rw [hs] at hm
    have hm' : rung b = b := hm
    rw [hm', xor63 b (by omega)]; rfl
  · rw [hs] at hm
    have hm' : 9223372036854775808 + rung b = b := hm
    have key : b ^^^ 9223372036854775808 = rung b := by
      have h1 : (9223372036854775808 + rung b) ^^^ 9223372036854775808 = rung b := by
        rw [← xor63 _ hr, Nat.xor_assoc, Nat.xor_self, Nat.xor_zero]
      rw [hm'] at h1; exact h1
    rw [key]; rfl
theorem neg_inf (b : Nat) (h : b < 18446744073709551616) : fgt (Go.Op.negFloat .f64 b) maxf = isNinf b := by
  rw [negFloat_eq b h, inf_plus]
  have hr := rung_lt b
  unfold isPinf isNinf isinf negW
  rw [rung_mk hr, sgn_mk hr]; simp
end Flt
