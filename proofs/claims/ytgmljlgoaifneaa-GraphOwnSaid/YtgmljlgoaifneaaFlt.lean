/- Binary floats (64 bits) as the model has them: their order by an integer key; when a sum, a product, a quotient, a conversion is exact. Plain Lean: no program. Condition: none beyond each theorem's own hypotheses. -/
import Derived.Laws.FloatArith
namespace Flt
open Ieee

def rung (b : Nat) : Nat := b % 9223372036854775808
def sgn (b : Nat) : Bool := b / 9223372036854775808 % 2 == 1
def infR : Nat := 9218868437227405312
def isnan (b : Nat) : Bool := decide (infR < rung b)
def isinf (b : Nat) : Bool := decide (rung b = infR)

/-- the magnitude of a rung, in units of the least place -/
def mval (r : Nat) : Nat := if r < 4503599627370496 then r else (4503599627370496 + r % 4503599627370496) * 2 ^ (r / 4503599627370496 - 1)
def ival (b : Nat) : Int := if sgn b then -(mval (rung b) : Int) else (mval (rung b) : Int)
def key (b : Nat) : Int := if sgn b then -(rung b : Int) else (rung b : Int)

theorem mval_mono {r s : Nat} (h : r < s) : mval r < mval s := by
  unfold mval
  by_cases hr : r < 4503599627370496
  · rw [if_pos hr]
    by_cases hs : s < 4503599627370496
    · rw [if_pos hs]; exact h
    · rw [if_neg hs]
      have : 1 ≤ 2 ^ (s / 4503599627370496 - 1) := Nat.one_le_two_pow
      have := Nat.mul_le_mul (Nat.le_add_right 4503599627370496 (s % 4503599627370496)) this
      omega
  · have hs : ¬ s < 4503599627370496 := by omega
    rw [if_neg hr, if_neg hs]
    by_cases he : r / 4503599627370496 = s / 4503599627370496
    · rw [he]
      exact Nat.mul_lt_mul_of_pos_right (by omega) (Nat.two_pow_pos _)
    · have hlt : r / 4503599627370496 < s / 4503599627370496 := by omega
      have h1 : 1 ≤ r / 4503599627370496 := by omega
      have hm : r % 4503599627370496 < 4503599627370496 := Nat.mod_lt _ (by omega)
      have a1 : (4503599627370496 + r % 4503599627370496) * 2 ^ (r / 4503599627370496 - 1) < 9007199254740992 * 2 ^ (r / 4503599627370496 - 1) :=
        Nat.mul_lt_mul_of_pos_right (by omega) (Nat.two_pow_pos _)
      have a2 : 9007199254740992 * 2 ^ (r / 4503599627370496 - 1) = 4503599627370496 * 2 ^ (r / 4503599627370496) := by
        obtain ⟨k, hk⟩ : ∃ k, r / 4503599627370496 = k + 1 := ⟨r / 4503599627370496 - 1, by omega⟩
        rw [hk, Nat.add_sub_cancel, Nat.pow_succ]; omega
      have a3 : 2 ^ (r / 4503599627370496) ≤ 2 ^ (s / 4503599627370496 - 1) := Nat.pow_le_pow_right (by omega) (by omega)
      have a4 := Nat.mul_le_mul (Nat.le_add_right 4503599627370496 (s % 4503599627370496)) a3
      omega

theorem mval_le {r s : Nat} (h : r ≤ s) : mval r ≤ mval s := by
  rcases Nat.lt_or_eq_of_le h with h | rfl
  · exact Nat.le_of_lt (mval_mono h)
  · exact Nat.le_refl _

theorem mval_inj {r s : Nat} (h : mval r = mval s) : r = s := by
  rcases Nat.lt_trichotomy r s with h1 | h1 | h1
  · have := mval_mono h1; omega
  · exact h1
  · have := mval_mono h1; omega

theorem mval_lt_iff {r s : Nat} : mval r < mval s ↔ r < s := by
  constructor
  · intro h
    rcases Nat.lt_trichotomy r s with h1 | h1 | h1
    · exact h1
    · rw [h1] at h; omega
    · have := mval_mono h1; omega
  · exact mval_mono

theorem mval_zero : mval 0 = 0 := by decide

/-- what a word reads as -/
theorem read_eq (b : Nat) : double.read b =
    if rung b < 4503599627370496 then .number (sgn b) (rung b) (-1074)
    else if rung b < infR then .number (sgn b) (4503599627370496 + rung b % 4503599627370496) (-1074 + (rung b / 4503599627370496 - 1 : Nat))
    else if rung b = infR then .infinity (sgn b) else .nan (sgn b) (rung b - infR) := rfl

theorem read_nan {b : Nat} (h : isnan b = true) : double.read b = .nan (sgn b) (rung b - infR) := by
  have h : infR < rung b := by simpa [isnan] using h
  have : 4503599627370496 ≤ infR := by decide
  rw [read_eq, if_neg (by omega), if_neg (by omega), if_neg (by omega)]

theorem read_inf {b : Nat} (h : rung b = infR) : double.read b = .infinity (sgn b) := by
  have : 4503599627370496 ≤ infR := by decide
  rw [read_eq, if_neg (by omega), if_neg (by omega), if_pos h]

/-- a finite word reads as a number of which the magnitude is known -/
theorem read_fin {b : Nat} (h : rung b < infR) : ∃ (m : Nat) (p : Nat), double.read b = .number (sgn b) m (-1074 + (p : Nat)) ∧ m * 2 ^ p = mval (rung b) ∧
    (rung b < 4503599627370496 → p = 0 ∧ m = rung b) ∧ (4503599627370496 ≤ rung b → p = rung b / 4503599627370496 - 1 ∧ m = 4503599627370496 + rung b % 4503599627370496) := by
  by_cases h1 : rung b < 4503599627370496
  · refine ⟨rung b, 0, ?_, ?_, fun _ => ⟨rfl, rfl⟩, fun _ => by omega⟩
    · rw [read_eq, if_pos h1]; rfl
    · unfold mval; rw [if_pos h1]; simp
  · refine ⟨4503599627370496 + rung b % 4503599627370496, rung b / 4503599627370496 - 1, ?_, ?_, fun _ => by omega, fun _ => ⟨rfl, rfl⟩⟩
    · rw [read_eq, if_neg h1, if_pos h]
    · unfold mval; rw [if_neg h1]

theorem signed_eq (s : Bool) (m k : Nat) : signed s m k = (if s then -1 else 1) * ((m * 2 ^ k : Nat) : Int) := by
  unfold signed
  rw [Nat.shiftLeft_eq]
  cases s <;> simp

theorem compare_mul (a b : Int) (k : Int) (hk : 0 < k) : compare (a * k) (b * k) = compare a b := by
  simp only [compare, compareOfLessAndEq]
  by_cases h1 : a < b
  · rw [if_pos h1, if_pos (Int.mul_lt_mul_of_pos_right h1 hk)]
  · rw [if_neg h1]
    have : ¬ a * k < b * k := by
      intro h; exact h1 (Int.lt_of_mul_lt_mul_right h (Int.le_of_lt hk))
    rw [if_neg this]
    by_cases h2 : a = b
    · rw [if_pos h2, if_pos (by rw [h2])]
    · rw [if_neg h2, if_neg]
      intro h; exact h2 (Int.eq_of_mul_eq_mul_right (by omega) h)

theorem ival_eq (b : Nat) : ival b = (if sgn b then -1 else 1) * (mval (rung b) : Int) := by
  unfold ival; split <;> omega

theorem order_fin {a b : Nat} (ha : rung a < infR) (hb : rung b < infR) : double.order a b = some (compare (ival a) (ival b)) := by
  obtain ⟨m, p, h1, h2, _⟩ := read_fin ha
  obtain ⟨n, q, g1, g2, _⟩ := read_fin hb
  unfold Format.order
  rw [h1, g1]
  simp only [Datum.order]
  congr 1
  have hbase : min (-1074 + (p : Int)) (-1074 + (q : Int)) = -1074 + ((min p q : Nat) : Int) := by omega
  rw [hbase]
  have e1 : (-1074 + (p : Int) - (-1074 + ((min p q : Nat) : Int))).toNat = p - min p q := by omega
  have e2 : (-1074 + (q : Int) - (-1074 + ((min p q : Nat) : Int))).toNat = q - min p q := by omega
  rw [e1, e2, signed_eq, signed_eq, ival_eq, ival_eq, ← h2, ← g2]
  have f1 : m * 2 ^ p = m * 2 ^ (p - min p q) * 2 ^ (min p q) := by
    rw [Nat.mul_assoc, ← Nat.pow_add]; congr 2; omega
  have f2 : n * 2 ^ q = n * 2 ^ (q - min p q) * 2 ^ (min p q) := by
    rw [Nat.mul_assoc, ← Nat.pow_add]; congr 2; omega
  rw [f1, f2]
  rw [Int.natCast_mul (m * 2 ^ (p - min p q)), Int.natCast_mul (n * 2 ^ (q - min p q)), ← Int.mul_assoc, ← Int.mul_assoc]
  exact (compare_mul _ _ _ (by have := Nat.two_pow_pos (min p q); omega)).symm

theorem order_nan_l {a : Nat} (b : Nat) (h : isnan a = true) : double.order a b = none := by
  unfold Format.order; rw [read_nan h]; rfl
theorem order_nan_r (a : Nat) {b : Nat} (h : isnan b = true) : double.order a b = none := by
  unfold Format.order; rw [read_nan h]
  cases double.read a <;> rfl

theorem ival_key (a b : Nat) : compare (ival a) (ival b) = compare (key a) (key b) := by
  unfold ival key
  have h1 : ∀ r s : Nat, compare (mval r : Int) (mval s : Int) = compare (r : Int) (s : Int) := by
    intro r s
    simp only [compare, compareOfLessAndEq]
    have e1 : ((mval r : Int) < (mval s : Int)) ↔ ((r : Int) < (s : Int)) := by
      have := @mval_lt_iff r s; omega
    have e2 : ((mval r : Int) = (mval s : Int)) ↔ ((r : Int) = (s : Int)) := by
      constructor
      · intro h; have := mval_inj (r := r) (s := s) (by omega); omega
      · intro h; have : r = s := by omega
        rw [this]
    by_cases g1 : (r : Int) < s
    · rw [if_pos g1, if_pos (e1.2 g1)]
    · rw [if_neg g1, if_neg (fun h => g1 (e1.1 h))]
      by_cases g2 : (r : Int) = s
      · rw [if_pos g2, if_pos (e2.2 g2)]
      · rw [if_neg g2, if_neg (fun h => g2 (e2.1 h))]
  have z : ∀ r : Nat, (mval r = 0 ↔ r = 0) := by
    intro r
    constructor
    · intro h; exact mval_inj (by rw [h, mval_zero])
    · rintro rfl; exact mval_zero
  have neg : ∀ x y : Int, compare (-x) (-y) = compare y x := by
    intro x y
    simp only [compare, compareOfLessAndEq]
    by_cases g1 : y < x
    · rw [if_pos g1, if_pos (by omega)]
    · rw [if_neg g1, if_neg (by omega)]
      by_cases g2 : y = x
      · rw [if_pos g2, if_pos (by omega)]
      · rw [if_neg g2, if_neg (by omega)]
  by_cases ha : sgn a = true <;> by_cases hb : sgn b = true <;> simp only [ha, hb, if_true, if_false, Bool.false_eq_true]
  · rw [neg, neg]; exact h1 _ _
  · have za := z (rung a); have zb := z (rung b)
    simp only [compare, compareOfLessAndEq]
    by_cases g : rung a = 0 ∧ rung b = 0
    · rw [g.1, g.2, mval_zero]
    · rw [if_pos (by omega), if_pos (by omega)]
  · have za := z (rung a); have zb := z (rung b)
    simp only [compare, compareOfLessAndEq]
    by_cases g : rung a = 0 ∧ rung b = 0
    · rw [g.1, g.2, mval_zero]
    · rw [if_neg (by omega), if_neg (by omega), if_neg (by omega), if_neg (by omega)]
  · exact h1 _ _

theorem rung_lt (b : Nat) : rung b < 9223372036854775808 := Nat.mod_lt _ (by decide)

/-- THE ORDER OF FLOATS: by their keys -/
theorem order_key {a b : Nat} (ha : isnan a = false) (hb : isnan b = false) : double.order a b = some (compare (key a) (key b)) := by
  have ha' : rung a ≤ infR := by simpa [isnan] using ha
  have hb' : rung b ≤ infR := by simpa [isnan] using hb
  rcases Nat.lt_or_eq_of_le ha' with ha1 | ha1 <;> rcases Nat.lt_or_eq_of_le hb' with hb1 | hb1
  · rw [order_fin ha1 hb1, ival_key]
  · obtain ⟨m, p, h1, _⟩ := read_fin ha1
    unfold Format.order; rw [h1, read_inf hb1]
    simp only [Datum.order, key, compare, compareOfLessAndEq]
    congr 1
    by_cases hs : sgn b = true <;> by_cases hs' : sgn a = true <;> simp only [hs, hs', if_true, if_false, Bool.false_eq_true]
    · rw [if_neg (by omega), if_neg (by omega)]
    · rw [if_neg (by omega), if_neg (by omega)]
    · rw [if_pos (by omega)]
    · rw [if_pos (by omega)]
  · obtain ⟨m, p, h1, _⟩ := read_fin hb1
    unfold Format.order; rw [h1, read_inf ha1]
    simp only [Datum.order, key, compare, compareOfLessAndEq]
    congr 1
    by_cases hs : sgn a = true <;> by_cases hs' : sgn b = true <;> simp only [hs, hs', if_true, if_false, Bool.false_eq_true]
    · rw [if_pos (by omega)]
    · rw [if_pos (by omega)]
    · rw [if_neg (by omega), if_neg (by omega)]
    · rw [if_neg (by omega), if_neg (by omega)]
  · unfold Format.order; rw [read_inf ha1, read_inf hb1]
    simp only [Datum.order, key, ha1, hb1]
    congr 1
    by_cases hs : sgn a = true <;> by_cases hs' : sgn b = true <;> simp only [hs, hs', if_true, if_false, Bool.false_eq_true] <;> decide
end Flt

namespace Flt
open Ieee

/-! ## exactness -/
theorem log2_mul_pow (m a : Nat) (h : m ≠ 0) : (m * 2 ^ a).log2 = m.log2 + a := by
  have h1 := Nat.log2_self_le h
  have h2 := @Nat.lt_log2_self m
  have hp : 0 < 2 ^ a := Nat.two_pow_pos a
  have hne : m * 2 ^ a ≠ 0 := Nat.mul_ne_zero h (by omega)
  rw [Nat.log2_eq_iff hne, Nat.pow_add, show m.log2 + a + 1 = (m.log2 + 1) + a by omega, Nat.pow_add]
  exact ⟨Nat.mul_le_mul_right _ h1, Nat.mul_lt_mul_of_pos_right h2 hp⟩

/-- a cut to the nearest, of a number that is whole, is that -/
theorem cut_exact (way : Toward) (s : Bool) (q d : Nat) : way.cut s (q * 2 ^ d) d = q := by
  unfold Toward.cut
  have key : q * 2 ^ d / (1 <<< min d ((q * 2 ^ d).log2 + 2)) = q ∧ q * 2 ^ d % (1 <<< min d ((q * 2 ^ d).log2 + 2)) = 0 := by
    rw [Nat.shiftLeft_eq, Nat.one_mul]
    by_cases hq : q = 0
    · subst hq; simp
    · rw [log2_mul_pow q d hq, Nat.min_eq_left (by omega)]
      exact ⟨Nat.mul_div_cancel _ (Nat.two_pow_pos d), Nat.mul_mod_left _ _⟩
  simp only [key.1, key.2]
  cases way
  · have : 0 < 1 <<< min d ((q * 2 ^ d).log2 + 2) := by rw [Nat.shiftLeft_eq, Nat.one_mul]; exact Nat.two_pow_pos _
    have e : ∀ g : Nat, 0 < g → (decide (g < 2 * 0) || g == 2 * 0 && q % 2 == 1) = false := by
      intro g hg; have : ¬ g = 0 := by omega
      simp [this]
    rw [e _ this]; rfl
  · simp
  · simp
  · simp

/-- the significand and the exponent of a rung -/
theorem mval_parts (r : Nat) : ∃ M E : Nat, mval r = M * 2 ^ E ∧ r = E * 4503599627370496 + M ∧ M < 9007199254740992 ∧ (E = 0 ∨ 4503599627370496 ≤ M) := by
  unfold mval
  by_cases h : r < 4503599627370496
  · rw [if_pos h]; exact ⟨r, 0, by simp, by omega, by omega, .inl rfl⟩
  · rw [if_neg h]
    have hm : r % 4503599627370496 < 4503599627370496 := Nat.mod_lt _ (by omega)
    refine ⟨_, _, rfl, ?_, by omega, .inr (by omega)⟩
    have := Nat.div_add_mod r 4503599627370496
    have : 1 ≤ r / 4503599627370496 := by omega
    omega

/-- and back -/
theorem mval_of_parts (M E : Nat) (hM : M < 9007199254740992) (h : E = 0 ∨ 4503599627370496 ≤ M) : mval (E * 4503599627370496 + M) = M * 2 ^ E := by
  unfold mval
  rcases h with rfl | h
  · by_cases h : M < 4503599627370496
    · rw [if_pos (by omega)]; simp
    · rw [if_neg (by omega)]
      have e1 : (0 * 4503599627370496 + M) % 4503599627370496 = M - 4503599627370496 := by omega
      have e2 : (0 * 4503599627370496 + M) / 4503599627370496 = 1 := by omega
      rw [e1, e2]; simp; omega
  · rw [if_neg (by omega)]
    have e1 : (E * 4503599627370496 + M) % 4503599627370496 = M - 4503599627370496 := by omega
    have e2 : (E * 4503599627370496 + M) / 4503599627370496 = E + 1 := by omega
    rw [e1, e2, Nat.add_sub_cancel, show 4503599627370496 + (M - 4503599627370496) = M by omega]

/-- also where the significand is 2^53 -/
theorem mval_of_parts' (M E : Nat) (hM : M ≤ 9007199254740992) (h : E = 0 ∨ 4503599627370496 ≤ M) : mval (E * 4503599627370496 + M) = M * 2 ^ E := by
  rcases Nat.lt_or_eq_of_le hM with h1 | h1
  · exact mval_of_parts M E h1 h
  · have e := mval_of_parts 4503599627370496 (E + 1) (by omega) (.inr (by omega))
    rw [show E * 4503599627370496 + M = (E + 1) * 4503599627370496 + 4503599627370496 by omega, e, h1, Nat.pow_succ]
    omega

theorem double_consts : double.fractionBits = 52 ∧ double.leastPlace = -1074 ∧ double.binade = 4503599627370496 ∧ double.infRung = 9218868437227405312 ∧ double.signWeight = 9223372036854775808 := by decide

theorem nearest_def (s : Bool) (m : Nat) (pl : Int) (hm : m ≠ 0) : double.nearest s m pl =
    double.word s (min ((max (pl + m.log2 - 52) (-1074) + 1074).toNat * 4503599627370496 + Toward.even.cut s (m <<< (pl - max (pl + m.log2 - 52) (-1074)).toNat) (max (pl + m.log2 - 52) (-1074) - pl).toNat) 9218868437227405312) := by
  unfold Format.nearest
  rw [if_neg hm]
  obtain ⟨h1, h2, h3, h4, _⟩ := double_consts
  simp only [h1, h2, h3, h4]
  rw [show (((52 : Nat) : Int)) = 52 from rfl]
  rw [Int.sub_neg]

def mk (s : Bool) (r : Nat) : Nat := if s then 9223372036854775808 + r else r
theorem word_eq (s : Bool) (r : Nat) : double.word s r = mk s r := rfl

theorem rung_mk {s : Bool} {r : Nat} (h : r < 9223372036854775808) : rung (mk s r) = r := by
  unfold rung mk; split <;> omega
theorem sgn_mk {s : Bool} {r : Nat} (h : r < 9223372036854775808) : sgn (mk s r) = s := by
  unfold sgn mk; cases s
  · rw [if_neg (by simp)]
    have : r / 9223372036854775808 = 0 := by omega
    rw [this]; rfl
  · rw [if_pos rfl]
    have : (9223372036854775808 + r) / 9223372036854775808 = 1 := by omega
    rw [this]; rfl
theorem mk_eta {b : Nat} (h : b < 18446744073709551616) : mk (sgn b) (rung b) = b := by
  unfold mk sgn rung
  have : b / 9223372036854775808 < 2 := by omega
  have h2 := Nat.div_add_mod b 9223372036854775808
  by_cases h1 : b / 9223372036854775808 = 1
  · rw [h1]; simp; omega
  · have h0 : b / 9223372036854775808 = 0 := by omega
    rw [h0]; simp; omega
theorem mk_inj {s t : Bool} {r q : Nat} (hr : r < 9223372036854775808) (hq : q < 9223372036854775808) (h : mk s r = mk t q) : s = t ∧ r = q := by
  have h1 := congrArg rung h
  have h2 := congrArg sgn h
  rw [rung_mk hr, rung_mk hq] at h1
  rw [sgn_mk hr, sgn_mk hq] at h2
  exact ⟨h2, h1⟩

/-- A NUMBER THAT THE FORMAT HAS IS WRITTEN AS IT IS -/
theorem nearest_exact (s : Bool) (m a b r : Nat) (hm : m ≠ 0) (hr : r ≤ infR) (h : m * 2 ^ a = mval r * 2 ^ b) (pl : Int) (hpl : pl = -1074 + a - b) : double.nearest s m pl = mk s r := by
  obtain ⟨M, E, h1, h2, h3, h4⟩ := mval_parts r
  have hM : M ≠ 0 := by
    rintro rfl
    rw [h1, Nat.zero_mul, Nat.zero_mul] at h
    rcases Nat.mul_eq_zero.1 h with h | h
    · exact hm h
    · have := Nat.two_pow_pos a; omega
  have hl : m.log2 + a = M.log2 + E + b := by
    have := congrArg Nat.log2 h
    rw [h1, Nat.mul_assoc, ← Nat.pow_add, log2_mul_pow m a hm, log2_mul_pow M (E + b) hM] at this
    omega
  have hML : M.log2 ≤ 52 := by
    have := (Nat.log2_lt hM (k := 53)).2 (by omega); omega
  have hML' : E = 0 ∨ M.log2 = 52 := by
    rcases h4 with h4 | h4
    · exact .inl h4
    · right
      have := (Nat.le_log2 hM (k := 52)).2 (by omega)
      omega
  have hlast : max (pl + m.log2 - 52) (-1074) = -1074 + (E : Int) := by
    subst hpl
    rcases hML' with h | h <;> omega
  rw [nearest_def s m pl hm, hlast, word_eq]
  have e0 : (-1074 + (E : Int) + 1074).toNat = E := by omega
  have e1 : (pl - (-1074 + (E : Int))).toNat = a - b - E := by omega
  have e2 : (-1074 + (E : Int) - pl).toNat = E + b - a := by omega
  rw [e0, e1, e2, Nat.shiftLeft_eq]
  have hcut : Toward.even.cut s (m * 2 ^ (a - b - E)) (E + b - a) = M := by
    rw [h1, Nat.mul_assoc, ← Nat.pow_add] at h
    by_cases hab : a ≤ E + b
    · have h5 : m = M * 2 ^ (E + b - a) := by
        apply Nat.eq_of_mul_eq_mul_right (Nat.two_pow_pos a)
        rw [h, Nat.mul_assoc, ← Nat.pow_add]; congr 2; omega
      rw [show a - b - E = 0 by omega, Nat.pow_zero, Nat.mul_one]
      conv => lhs; rw [h5]
      exact cut_exact _ _ _ _
    · have h5 : m * 2 ^ (a - b - E) = M := by
        apply Nat.eq_of_mul_eq_mul_right (Nat.two_pow_pos (E + b))
        rw [← h, Nat.mul_assoc, ← Nat.pow_add]; congr 2; omega
      rw [h5, show E + b - a = 0 by omega]
      have := cut_exact .even s M 0
      simpa using this
  rw [hcut, ← h2, Nat.min_eq_left (show r ≤ 9218868437227405312 from hr)]

/-- which numbers the format has: those of 53 digits -/
theorem rep (M E : Nat) (h : M < 9007199254740992) : ∃ r, mval r = M * 2 ^ E := by
  induction E generalizing M with
  | zero => exact ⟨0 * 4503599627370496 + M, by rw [mval_of_parts M 0 h (.inl rfl)]⟩
  | succ E ih =>
    by_cases h2 : M < 4503599627370496
    · obtain ⟨r, hr⟩ := ih (2 * M) (by omega)
      exact ⟨r, by rw [hr, Nat.pow_succ]; rw [Nat.mul_comm 2 M, Nat.mul_assoc, Nat.mul_comm 2]⟩
    · exact ⟨(E + 1) * 4503599627370496 + M, mval_of_parts M (E + 1) h (.inr (by omega))⟩

/-- the exponent of infinity's rung -/
@[irreducible] def Ktop : Nat := 2046
theorem Ktop_eq : Ktop = 2046 := by unfold Ktop; rfl
theorem mval_infR : mval infR = 4503599627370496 * 2 ^ Ktop := by
  have hK := Ktop_eq
  have := mval_of_parts 4503599627370496 Ktop (by omega) (.inr (by omega))
  have e : infR = Ktop * 4503599627370496 + 4503599627370496 := by rw [hK]; decide
  rw [e, this]

/-- the sum of two finite words, where the format has it -/
theorem add_exact {x y : Nat} (hx : rung x < infR) (hy : rung y < infR) (r : Nat) (hr : r ≤ infR) (h : (ival x + ival y).natAbs = mval r) :
    double.add x y = some (mk (if ival x + ival y = 0 then sgn x && sgn y else decide (ival x + ival y < 0)) r) := by
  obtain ⟨m, p, h1, h2, _⟩ := read_fin hx
  obtain ⟨n, q, g1, g2, _⟩ := read_fin hy
  unfold Format.add
  rw [h1, g1]
  simp only [Datum.sum, Option.map_some]
  have hbase : min (-1074 + (p : Int)) (-1074 + (q : Int)) = -1074 + ((min p q : Nat) : Int) := by omega
  rw [hbase]
  have e1 : (-1074 + (p : Int) - (-1074 + ((min p q : Nat) : Int))).toNat = p - min p q := by omega
  have e2 : (-1074 + (q : Int) - (-1074 + ((min p q : Nat) : Int))).toNat = q - min p q := by omega
  rw [e1, e2]
  generalize hT : signed (sgn x) m (p - min p q) + signed (sgn y) n (q - min p q) = T
  have hval : ival x + ival y = T * 2 ^ (min p q) := by
    rw [← hT, signed_eq, signed_eq, ival_eq, ival_eq, ← h2, ← g2, Int.add_mul]
    have f1 : m * 2 ^ p = m * 2 ^ (p - min p q) * 2 ^ (min p q) := by
      rw [Nat.mul_assoc, ← Nat.pow_add]; congr 2; omega
    have f2 : n * 2 ^ q = n * 2 ^ (q - min p q) * 2 ^ (min p q) := by
      rw [Nat.mul_assoc, ← Nat.pow_add]; congr 2; omega
    rw [f1, f2, Int.natCast_mul (m * 2 ^ (p - min p q)), Int.natCast_mul (n * 2 ^ (q - min p q)), ← Int.mul_assoc, ← Int.mul_assoc]
    simp
  have hpos : (0 : Int) < 2 ^ (min p q) := by
    have := Nat.two_pow_pos (min p q)
    have e : ((2 ^ (min p q) : Nat) : Int) = (2 : Int) ^ (min p q) := by simp
    omega
  congr 1
  unfold Format.write
  simp only
  by_cases hT0 : T = 0
  · subst hT0
    have hv0 : ival x + ival y = 0 := by rw [hval]; simp
    rw [hv0] at h
    have hr0 : r = 0 := mval_inj (by rw [← h, mval_zero]; rfl)
    rw [hv0, if_pos rfl, hr0]
    unfold Format.nearest
    simp [word_eq]
  · have hv0 : ival x + ival y ≠ 0 := by
      rw [hval]; intro h0
      rcases Int.mul_eq_zero.1 h0 with h0 | h0
      · exact hT0 h0
      · omega
    rw [if_neg hT0, if_neg hv0]
    have hs : decide (T < 0) = decide (ival x + ival y < 0) := by
      rw [hval]
      apply decide_eq_decide.2
      constructor
      · intro h; exact Int.mul_neg_of_neg_of_pos h hpos
      · intro h; exact Int.lt_of_not_ge fun h0 => by have := Int.mul_nonneg h0 (Int.le_of_lt hpos); omega
    rw [hs]
    refine nearest_exact _ T.natAbs (min p q) 0 r (by omega) hr ?_ _ (by omega)
    rw [Nat.pow_zero, Nat.mul_one, ← h, hval, Int.natAbs_mul]
    congr 1

end Flt

namespace Flt
open Ieee

/-- the least place is 2^-K -/
@[irreducible] def K : Nat := 1074
theorem K_eq : K = 1074 := by unfold K; rfl

/-! ## products, quotients, whole numbers -/
theorem mul_exact {x y : Nat} (hx : rung x < infR) (hy : rung y < infR) (r : Nat) (hr : r ≤ infR) (h : mval (rung x) * mval (rung y) = mval r * 2 ^ K) :
    double.mul x y = some (mk (sgn x ^^ sgn y) r) := by
  obtain ⟨m, p, h1, h2, _⟩ := read_fin hx
  obtain ⟨n, q, g1, g2, _⟩ := read_fin hy
  unfold Format.mul
  rw [h1, g1]
  simp only [Datum.product, Option.map_some]
  congr 1
  unfold Format.write
  simp only
  rw [← h2, ← g2] at h
  by_cases h0 : m * n = 0
  · have hr0 : r = 0 := by
      apply mval_inj
      rw [mval_zero]
      have : mval r * 2 ^ K = 0 := by
        rw [← h, show m * 2 ^ p * (n * 2 ^ q) = (m * n) * (2 ^ p * 2 ^ q) by simp only [Nat.mul_assoc, Nat.mul_left_comm], h0, Nat.zero_mul]
      rcases Nat.mul_eq_zero.1 this with h | h
      · exact h
      · have := Nat.two_pow_pos K; omega
    rw [h0, hr0]; unfold Format.nearest; rw [if_pos rfl]; rfl
  · refine nearest_exact _ (m * n) (p + q) K r h0 hr ?_ _ (by have := K_eq; omega)
    rw [← h, Nat.pow_add]; simp only [Nat.mul_assoc, Nat.mul_left_comm]

theorem log2_mul_le (a b : Nat) (ha : a ≠ 0) (hb : b ≠ 0) : (a * b).log2 ≤ a.log2 + b.log2 + 1 := by
  have h1 := @Nat.lt_log2_self a
  have h2 := @Nat.lt_log2_self b
  have h3 : a * b ≠ 0 := Nat.mul_ne_zero ha hb
  have h4 : a * b < 2 ^ (a.log2 + b.log2 + 2) := by
    rw [show a.log2 + b.log2 + 2 = (a.log2 + 1) + (b.log2 + 1) by omega, Nat.pow_add]
    exact Nat.lt_of_le_of_lt (Nat.mul_le_mul_left _ (Nat.le_of_lt h2)) (Nat.mul_lt_mul_of_pos_right h1 (Nat.two_pow_pos _))
  have := (Nat.log2_lt h3).2 h4
  omega

theorem div_exact {x y : Nat} (hx : rung x < infR) (hy : rung y < infR) (hy0 : mval (rung y) ≠ 0) (r : Nat) (hr : r ≤ infR) (h : mval (rung x) * 2 ^ K = mval r * mval (rung y)) :
    double.div x y = some (mk (sgn x ^^ sgn y) r) := by
  obtain ⟨m, p, h1, h2, _⟩ := read_fin hx
  obtain ⟨n, q, g1, g2, _⟩ := read_fin hy
  have hn : n ≠ 0 := by
    rintro rfl; rw [← g2] at hy0; simp at hy0
  unfold Format.div
  rw [h1, g1]
  simp only [Datum.quotient, if_neg hn, Option.map_some]
  rw [show double.fractionBits = 52 from rfl]
  congr 1
  unfold Format.write
  simp only
  rw [← h2, ← g2] at h
  by_cases hm : m = 0
  · have hr0 : r = 0 := by
      apply mval_inj
      rw [mval_zero]
      rw [hm, Nat.zero_mul, Nat.zero_mul] at h
      rcases Nat.mul_eq_zero.1 h.symm with h | h
      · exact h
      · rcases Nat.mul_eq_zero.1 h with h | h
        · exact absurd h hn
        · have := Nat.two_pow_pos q; omega
    rw [hm, hr0]; simp [Format.nearest, word_eq]
  · obtain ⟨M, E, k1, k2, k3, _⟩ := mval_parts r
    have hM : M ≠ 0 := by
      rintro rfl
      rw [k1, Nat.zero_mul, Nat.zero_mul] at h
      rcases Nat.mul_eq_zero.1 h with h | h
      · rcases Nat.mul_eq_zero.1 h with h | h
        · exact hm h
        · have := Nat.two_pow_pos p; omega
      · have := Nat.two_pow_pos K; omega
    have hML : M.log2 ≤ 52 := by
      have := (Nat.log2_lt hM (k := 53)).2 (by omega); omega
    rw [k1] at h
    have h5 : m * 2 ^ (p + K) = M * n * 2 ^ (E + q) := by
      rw [Nat.pow_add, Nat.pow_add, ← Nat.mul_assoc, h]; simp only [Nat.mul_assoc, Nat.mul_comm, Nat.mul_left_comm]
    have hMn : M * n ≠ 0 := Nat.mul_ne_zero hM hn
    have hl : m.log2 + (p + K) = (M * n).log2 + (E + q) := by
      rw [← log2_mul_pow m _ hm, h5, log2_mul_pow _ _ hMn]
    have hl2 := log2_mul_le M n hM hn
    have hnm := Nat.le_log2 hn (k := 0)
    generalize hmore : 52 + 2 + n.log2 - m.log2 = more
    have hdvd : ∃ D, m * 2 ^ more = D * n := by
      by_cases hc : E + q ≤ p + K
      · have h6 : m * 2 ^ (p + K - (E + q)) = M * n := by
          apply Nat.eq_of_mul_eq_mul_right (Nat.two_pow_pos (E + q))
          rw [← h5, Nat.mul_assoc, ← Nat.pow_add]; congr 2; omega
        have h7 : p + K - (E + q) ≤ more := by omega
        refine ⟨M * 2 ^ (more - (p + K - (E + q))), ?_⟩
        have : m * 2 ^ more = (m * 2 ^ (p + K - (E + q))) * 2 ^ (more - (p + K - (E + q))) := by
          rw [Nat.mul_assoc, ← Nat.pow_add]; congr 2; omega
        rw [this, h6]; simp only [Nat.mul_assoc, Nat.mul_comm]
      · have h6 : m = M * n * 2 ^ (E + q - (p + K)) := by
          apply Nat.eq_of_mul_eq_mul_right (Nat.two_pow_pos (p + K))
          rw [h5, Nat.mul_assoc, Nat.mul_assoc, Nat.mul_assoc, ← Nat.pow_add]; congr 3; omega
        refine ⟨M * 2 ^ (E + q - (p + K)) * 2 ^ more, ?_⟩
        conv => lhs; rw [h6]
        simp only [Nat.mul_assoc, Nat.mul_comm, Nat.mul_left_comm]
    obtain ⟨D, hD⟩ := hdvd
    have hD0 : D ≠ 0 := by
      rintro rfl
      rw [Nat.zero_mul] at hD
      rcases Nat.mul_eq_zero.1 hD with h | h
      · exact hm h
      · have := Nat.two_pow_pos more; omega
    have e1 : m <<< more / n = D := by rw [Nat.shiftLeft_eq, hD]; exact Nat.mul_div_cancel _ (by omega)
    have e2 : m <<< more % n = 0 := by rw [Nat.shiftLeft_eq, hD]; exact Nat.mul_mod_left _ _
    rw [e1, e2]
    simp only [bne_self_eq_false, Bool.toNat_false, Nat.add_zero]
    refine nearest_exact _ (2 * D) (p + K) (q + more + 1) r (by omega) hr ?_ _ (by have := K_eq; omega)
    apply Nat.eq_of_mul_eq_mul_right (show 0 < n by omega)
    rw [k1]
    have f1 : 2 * D * 2 ^ (p + K) * n = 2 * 2 ^ more * (m * 2 ^ (p + K)) := by
      rw [show 2 * D * 2 ^ (p + K) * n = 2 * 2 ^ (p + K) * (D * n) by simp only [Nat.mul_assoc, Nat.mul_comm], ← hD]
      simp only [Nat.mul_assoc, Nat.mul_comm, Nat.mul_left_comm]
    rw [f1, h5, Nat.pow_add, Nat.pow_add, Nat.pow_add, Nat.pow_one]
    simp only [Nat.mul_assoc, Nat.mul_comm, Nat.mul_left_comm]

/-- the gap of a cut: either the whole, or all is dropped and less than half -/
theorem gap_cases (n d : Nat) : (1 <<< min d (n.log2 + 2) = 2 ^ d) ∨ (2 * n < 1 <<< min d (n.log2 + 2) ∧ 1 <<< min d (n.log2 + 2) ≤ 2 ^ d) := by
  rw [Nat.shiftLeft_eq, Nat.one_mul]
  by_cases h : d ≤ n.log2 + 2
  · left; rw [Nat.min_eq_left h]
  · right
    rw [Nat.min_eq_right (by omega)]
    have h1 := @Nat.lt_log2_self n
    constructor
    · rw [show n.log2 + 2 = n.log2 + 1 + 1 by omega, Nat.pow_succ]; omega
    · exact Nat.pow_le_pow_right (by omega) (by omega)

theorem cut_zero (s : Bool) (n d : Nat) : Toward.zero.cut s n d = n / 2 ^ d := by
  unfold Toward.cut
  simp only [Bool.toNat_false, Nat.add_zero]
  rcases gap_cases n d with h | ⟨h1, h2⟩
  · rw [h]
  · rw [Nat.div_eq_of_lt (by omega), Nat.div_eq_of_lt (by omega)]

theorem cut_down (s : Bool) (n d : Nat) : Toward.down.cut s n d = n / 2 ^ d + (s && n % 2 ^ d != 0).toNat := by
  unfold Toward.cut
  rcases gap_cases n d with h | ⟨h1, h2⟩
  · rw [h]
  · simp only
    rw [Nat.div_eq_of_lt (show n < _ by omega), Nat.div_eq_of_lt (show n < 2 ^ d by omega), Nat.mod_eq_of_lt (show n < 1 <<< _ by omega), Nat.mod_eq_of_lt (show n < 2 ^ d by omega)]

theorem cut_even (s : Bool) (n d : Nat) : Toward.even.cut s n d = n / 2 ^ d + (decide (2 ^ d < 2 * (n % 2 ^ d)) || 2 ^ d == 2 * (n % 2 ^ d) && n / 2 ^ d % 2 == 1).toNat := by
  unfold Toward.cut
  rcases gap_cases n d with h | ⟨h1, h2⟩
  · rw [h]
  · simp only
    rw [Nat.div_eq_of_lt (show n < _ by omega), Nat.div_eq_of_lt (show n < 2 ^ d by omega), Nat.mod_eq_of_lt (show n < 1 <<< _ by omega), Nat.mod_eq_of_lt (show n < 2 ^ d by omega)]
    have e1 : decide (1 <<< min d (n.log2 + 2) < 2 * n) = false := decide_eq_false (by omega)
    have e2 : decide (2 ^ d < 2 * n) = false := decide_eq_false (by omega)
    have e3 : (1 <<< min d (n.log2 + 2) == 2 * n) = false := by simp; omega
    have e4 : (2 ^ d == 2 * n) = false := by simp; omega
    rw [e1, e2, e3, e4]

/-- how a finite number is made whole: 'V' in units of the least place, to whole units of 2^1074 -/
def wholeV (way : Toward) (s : Bool) (V : Nat) : Nat :=
  match way with
  | .zero => V / 2 ^ K
  | .down => V / 2 ^ K + (s && V % 2 ^ K != 0).toNat
  | .up => V / 2 ^ K + (!s && V % 2 ^ K != 0).toNat
  | .even => V / 2 ^ K + (decide (2 ^ K < 2 * (V % 2 ^ K)) || 2 ^ K == 2 * (V % 2 ^ K) && V / 2 ^ K % 2 == 1).toNat

theorem cut_up (s : Bool) (n d : Nat) : Toward.up.cut s n d = n / 2 ^ d + (!s && n % 2 ^ d != 0).toNat := by
  unfold Toward.cut
  rcases gap_cases n d with h | ⟨h1, h2⟩
  · rw [h]
  · simp only
    rw [Nat.div_eq_of_lt (show n < _ by omega), Nat.div_eq_of_lt (show n < 2 ^ d by omega), Nat.mod_eq_of_lt (show n < 1 <<< _ by omega), Nat.mod_eq_of_lt (show n < 2 ^ d by omega)]

theorem cut_whole (way : Toward) (s : Bool) (m p : Nat) : way.cut s (m <<< (-1074 + (p : Int)).toNat) (-(-1074 + (p : Int))).toNat = wholeV way s (m * 2 ^ p) := by
  rw [Nat.shiftLeft_eq]
  have hK := K_eq
  by_cases h : K ≤ p
  · have e1 : (-1074 + (p : Int)).toNat = p - K := by omega
    have e2 : (-(-1074 + (p : Int))).toNat = 0 := by omega
    rw [e1, e2]
    have hc := cut_exact way s (m * 2 ^ (p - K)) 0
    rw [Nat.pow_zero, Nat.mul_one] at hc
    rw [hc]
    have hv : m * 2 ^ p = m * 2 ^ (p - K) * 2 ^ K := by rw [Nat.mul_assoc, ← Nat.pow_add]; congr 2; omega
    rw [hv]
    have d1 : m * 2 ^ (p - K) * 2 ^ K / 2 ^ K = m * 2 ^ (p - K) := Nat.mul_div_cancel _ (Nat.two_pow_pos _)
    have d2 : m * 2 ^ (p - K) * 2 ^ K % 2 ^ K = 0 := Nat.mul_mod_left _ _
    unfold wholeV
    have hp := Nat.two_pow_pos K
    cases way <;> simp only [d1, d2]
    · have e3 : decide (2 ^ K < 2 * 0) = false := decide_eq_false (by omega)
      have e4 : ((2 ^ K : Nat) == 2 * 0) = false := by
        rw [beq_eq_false_iff_ne]; omega
      rw [e3, e4]; simp
    · simp
    · simp
  · have e1 : (-1074 + (p : Int)).toNat = 0 := by omega
    have e2 : (-(-1074 + (p : Int))).toNat = K - p := by omega
    rw [e1, e2, Nat.pow_zero, Nat.mul_one]
    have hpw : 2 ^ K = 2 ^ (K - p) * 2 ^ p := by rw [← Nat.pow_add]; congr 1; omega
    have d1 : m * 2 ^ p / 2 ^ K = m / 2 ^ (K - p) := by rw [hpw, Nat.mul_div_mul_right _ _ (Nat.two_pow_pos p)]
    have d2 : m * 2 ^ p % 2 ^ K = (m % 2 ^ (K - p)) * 2 ^ p := by rw [hpw, Nat.mul_mod_mul_right]
    have hp := Nat.two_pow_pos p
    have z1 : (m % 2 ^ (K - p) * 2 ^ p != 0) = (m % 2 ^ (K - p) != 0) := by
      have : m % 2 ^ (K - p) * 2 ^ p = 0 ↔ m % 2 ^ (K - p) = 0 := by
        constructor
        · intro h; rcases Nat.mul_eq_zero.1 h with h | h
          · exact h
          · omega
        · intro h; rw [h, Nat.zero_mul]
      rw [Bool.eq_iff_iff]; simp [this]
    unfold wholeV
    cases way
    · simp only [cut_even, d1, d2]
      congr 2
      have c1 : (2 ^ K < 2 * (m % 2 ^ (K - p) * 2 ^ p)) ↔ (2 ^ (K - p) < 2 * (m % 2 ^ (K - p))) := by
        rw [hpw, ← Nat.mul_assoc]; exact Nat.mul_lt_mul_right hp
      have c2 : (2 ^ K = 2 * (m % 2 ^ (K - p) * 2 ^ p)) ↔ (2 ^ (K - p) = 2 * (m % 2 ^ (K - p))) := by
        rw [hpw, ← Nat.mul_assoc]; exact Nat.mul_left_inj (by omega)
      rw [decide_eq_decide.2 c1]
      congr 2
      rw [Bool.eq_iff_iff, beq_iff_eq, beq_iff_eq]; exact c2.symm
    · simp only [cut_down, d1, d2, z1]
    · simp only [cut_up, d1, d2, z1]
    · simp only [cut_zero, d1]

/-- a finite word made whole -/
theorem integral_exact (way : Toward) {x : Nat} (hx : rung x < infR) (r : Nat) (hr : r ≤ infR) (h : wholeV way (sgn x) (mval (rung x)) * 2 ^ K = mval r) :
    double.write ((double.read x).integral way) = mk (sgn x) r := by
  obtain ⟨m, p, h1, h2, _⟩ := read_fin hx
  rw [h1]
  simp only [Datum.integral, Format.write]
  rw [cut_whole, h2]
  generalize hk : wholeV way (sgn x) (mval (rung x)) = k at h
  by_cases h0 : k = 0
  · subst h0
    have hr0 : r = 0 := mval_inj (by rw [← h, mval_zero]; simp)
    rw [hr0]; unfold Format.nearest; rw [if_pos rfl]; rfl
  · exact nearest_exact _ k K 0 r h0 hr (by rw [h, Nat.pow_zero, Nat.mul_one]) 0 (by have := K_eq; omega)

/-- a finite word as an integer -/
theorem toInt_fin {x : Nat} (hx : rung x < infR) : (double.read x).toInt .zero = some ((if sgn x then -1 else 1) * ((mval (rung x) / 2 ^ K : Nat) : Int)) := by
  obtain ⟨m, p, h1, h2, _⟩ := read_fin hx
  rw [h1]
  simp only [Datum.toInt, Datum.integral]
  rw [cut_whole, h2, signed_eq]
  simp [wholeV]

/-- an integer as a float -/
theorem ofInt_exact (n : Int) (r : Nat) (hr : r ≤ infR) (h : n.natAbs * 2 ^ K = mval r) : Go.floatOfInt .f64 n = mk (decide (n < 0)) r := by
  unfold Go.floatOfInt Go.FloatKind.nearest Go.FloatKind.encode
  simp only [Go.FloatKind.format, Format.write]
  by_cases h0 : n = 0
  · subst h0
    have hr0 : r = 0 := mval_inj (by rw [← h, mval_zero]; simp)
    rw [hr0]; rfl
  · exact nearest_exact _ n.natAbs K 0 r (by omega) hr (by rw [h, Nat.pow_zero, Nat.mul_one]) 0 (by have := K_eq; omega)

end Flt
