/- A distance's text as bytes: how many quarters it is, the whole ones in decimal digits, and a tail. Plain Lean: no program. Condition: none beyond each theorem's own hypotheses. -/
import Derived.Test.YtjcgachdnkdamaaDoorFlq
import Derived.Test.YtjcgachdnkdamaaDoorRow
import Derived.Shelf.Strconv.Itoa4
import Derived.Lib.AppendIntMem
import Derived.ShutString
namespace Flt
open Ieee Go

/-- does it have a text (other than inf)? -/
def toldB (d : Nat) : Bool := !isnan d && (!sgn d && ((flt d 4787326403894837248 || feq d 4787326403894837248) && quarterB d))
def qOf (d : Nat) : Nat := mval (rung d) / Q1
theorem big_isQ : IsQ 4787326403894837248 4398046511104 := by
  have := ofInt_isQ 1099511627776 (by decide)
  have e : floatOfInt .f64 1099511627776 = 4787326403894837248 := by decide +kernel
  rw [e] at this; exact this
theorem toldB_isQ {d : Nat} (hd : d < 18446744073709551616) (h : toldB d = true) : IsQ d (qOf d : Int) ∧ qOf d ≤ 4398046511104 ∧ isPinf d = false ∧ isinf d = false := by
  unfold toldB at h
  simp only [Bool.and_eq_true, Bool.not_eq_true'] at h
  obtain ⟨h1, h2, h3, h4⟩ := h
  have hp := Q1_pos
  have hk : key d ≤ key 4787326403894837248 := by
    rw [flt_of h1 big_isQ.nan, feq_of h1 big_isQ.nan, ← Bool.decide_or, decide_eq_true_eq] at h3; omega
  have kb : key 4787326403894837248 = 4787326403894837248 := by decide
  have kd : key d = (rung d : Int) := by unfold key; rw [h2]; simp
  rw [kb, kd] at hk
  have hfin : rung d < infR := by unfold infR; omega
  have hv := big_isQ.val
  rw [show rung 4787326403894837248 = 4787326403894837248 by decide] at hv
  have hm := mval_le (show rung d ≤ 4787326403894837248 by omega)
  rw [hv, show (4398046511104 : Int).natAbs = 4398046511104 from rfl] at hm
  obtain ⟨n, hn⟩ := (quarter_iff hfin (by
    obtain ⟨r, g1, g2⟩ := rungQ (4 * 4398046511105) (by omega)
    have g3 := mval_mono g1
    rw [g2] at g3
    have : 4 * (4398046511104 * Q1) < 4 * 4398046511105 * Q1 := by rw [← Nat.mul_assoc]; exact Nat.mul_lt_mul_of_pos_right (by omega) hp
    omega)).1 h4
  have hq : qOf d = n := by unfold qOf; rw [hn]; exact Nat.mul_div_cancel _ hp
  have hi : isinf d = false := by unfold isinf; exact decide_eq_false (by omega)
  refine ⟨⟨hd, hfin, by rw [h2]; exact (decide_eq_false (by omega)).symm, by rw [hq, hn]; simp⟩, ?_, by unfold isPinf; rw [hi]; rfl, hi⟩
  rw [hq]
  rw [hn] at hm
  exact Nat.le_of_mul_le_mul_right hm hp
theorem toldB_of {d : Nat} {q : Nat} (h : IsQ d (q : Int)) (hq : q ≤ 4398046511104) : toldB d = true ∧ qOf d = q := by
  have hp := Q1_pos
  have e : qOf d = q := by unfold qOf; rw [h.val]; simp [Nat.mul_div_cancel _ hp]
  refine ⟨?_, e⟩
  unfold toldB
  rw [h.nan, h.sg, h.ltQ big_isQ, h.eqQ big_isQ, h.quarterB (by omega), decide_eq_false (by omega : ¬ ((q : Int) < 0)), ← Bool.decide_or, decide_eq_true (by omega)]
  rfl

/-- four times it, as an integer -/
theorem IsQ.mul4 {d : Nat} {q : Nat} (h : IsQ d (q : Int)) (hq : q < 2251799813685248) : ∃ c, double.mul d 4616189618054758400 = some c ∧ IsQ c (4 * (q : Int)) := by
  obtain ⟨r, r1, r2⟩ := rungQ (4 * q) (by omega)
  refine ⟨Flt.mk false r, ?_, ?_⟩
  · have := mul_exact h.fin four_isQ.fin r (by omega) (by rw [h.val, four_isQ.val, r2, K_Q1, show (16 : Int).natAbs = 4 * 4 from rfl, Int.natAbs_natCast]; simp only [Nat.mul_assoc, Nat.mul_left_comm, Nat.mul_comm])
    rw [this, h.sg, four_isQ.sg, decide_eq_false (by omega)]; rfl
  · have := isQ_mk (n := 4 * (q : Int)) r1 (by rw [r2, show (4 * (q : Int)).natAbs = 4 * q by omega])
    rwa [decide_eq_false (by omega)] at this
theorem IsQ.toInt {c : Nat} {n : Int} (h : IsQ c (4 * n)) (h1 : 0 ≤ n) (h2 : n < 9007199254740992) : floatToIntVal .f64 c .i64 = some n := by
  have hp := Q1_pos
  unfold floatToIntVal
  have e : (FloatKind.decode .f64 c).toInt .zero = some n := by
    show (double.read c).toInt .zero = some n
    rw [toInt_fin h.fin, h.val, K_Q1, show (4 * n).natAbs = 4 * n.natAbs by omega, show 4 * n.natAbs * Q1 = n.natAbs * (4 * Q1) by rw [Nat.mul_comm 4, Nat.mul_assoc], Nat.mul_div_cancel _ (by omega), h.sg, decide_eq_false (by omega)]
    simp; omega
  rw [e]
  simp only
  rw [if_pos]
  constructor
  · show (-9223372036854775808 : Int) ≤ n; omega
  · show n ≤ (9223372036854775807 : Int); omega
/-- the whole ones, as the reference cuts them -/
theorem IsQ.truncI {d : Nat} {q : Nat} (h : IsQ d (q : Int)) (hq : q < 2251799813685248) : IsQ (truncW d) (4 * ((q / 4 : Nat) : Int)) := by
  have hp := Q1_pos
  obtain ⟨r, h1, h2⟩ := rungQ (4 * (q / 4)) (by omega)
  have hs : sgn d = false := by rw [h.sg]; exact decide_eq_false (by omega)
  have hw : wholeV .zero (sgn d) (mval (rung d)) = q / 4 := by
    unfold wholeV; simp only
    rw [h.val, K_Q1, Int.natAbs_natCast, Nat.mul_div_mul_right _ _ hp]
  unfold truncW
  rw [integral_exact .zero h.fin r (by omega) (by rw [hw, h2, K_Q1]; simp only [Nat.mul_assoc, Nat.mul_left_comm]), hs]
  have := isQ_mk (n := 4 * ((q / 4 : Nat) : Int)) h1 (by rw [h2, show (4 * ((q / 4 : Nat) : Int)).natAbs = 4 * (q / 4) by omega])
  rwa [decide_eq_false (by omega)] at this

/-- the tail of so many quarters -/
def tailB (r : Int) : ByteArray := if r = 0 then ⟨#[]⟩ else if r = 1 then ⟨#[46, 50, 53]⟩ else if r = 2 then ⟨#[46, 53]⟩ else ⟨#[46, 55, 53]⟩
def itoaB (n : Int) : ByteArray := ⟨(Lib.itoa n).toArray⟩
/-- the text of a distance, and why it has none -/
def textB (d : Nat) : ByteArray := if isPinf d then ⟨#[105, 110, 102]⟩ else if toldB d then itoaB ((qOf d : Int) / 4) ++ tailB ((qOf d : Int) % 4) else ⟨#[]⟩
def textE (d : Nat) : Int := if isPinf d then 0 else if toldB d then 0 else 5
def quartN (d : Nat) : Int := if toldB d then (qOf d : Int) else 0
def quartE (d : Nat) : Int := if toldB d then 0 else 5
end Flt
