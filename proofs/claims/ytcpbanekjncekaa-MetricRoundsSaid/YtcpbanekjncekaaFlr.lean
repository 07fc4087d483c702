/- Rounding a float between 1 and 2^20 to quarters: by RoundToEven of four times it, or by the nearer of two neighbours: the same quarter. Plain Lean: no program. Condition: none beyond each theorem's own hypotheses. -/
import Derived.Test.YtcpbanekjncekaaFlq
namespace Flt
open Ieee Go

/-- a float from 1 on, at most 2^20 -/
structure Mid (f : Nat) : Prop where make ::
  lt : f < 18446744073709551616
  sg : sgn f = false
  lo : 4 * Q1 ≤ mval (rung f)
  hi : mval (rung f) ≤ 4194304 * Q1

def qq (f : Nat) : Nat := mval (rung f) / Q1
def qr (f : Nat) : Nat := mval (rung f) % Q1
/-- the nearest quarter, between two the even one -/
def qn (f : Nat) : Nat := if Q1 < 2 * qr f ∨ (Q1 = 2 * qr f ∧ qq f % 2 = 1) then qq f + 1 else qq f

theorem Mid.fin {f : Nat} (h : Mid f) : rung f < infR := by
  obtain ⟨r, h1, h2⟩ := rungQ 4194305 (by omega)
  have hp := Q1_pos
  have h3 : mval (rung f) < mval r := by
    rw [h2]; have := h.hi
    have : 4194304 * Q1 < 4194305 * Q1 := Nat.mul_lt_mul_of_pos_right (by omega) hp
    omega
  have := mval_lt_iff.1 h3
  omega
theorem Mid.parts {f : Nat} (_h : Mid f) : mval (rung f) = qq f * Q1 + qr f ∧ qr f < Q1 := by
  have hp := Q1_pos
  have := Nat.div_add_mod (mval (rung f)) Q1
  rw [Nat.mul_comm] at this
  exact ⟨this.symm, Nat.mod_lt _ hp⟩
theorem Mid.qq_bd {f : Nat} (h : Mid f) : 4 ≤ qq f ∧ qq f ≤ 4194304 := by
  have hp := Q1_pos
  exact ⟨(Nat.le_div_iff_mul_le hp).2 h.lo, by
    have := Nat.div_le_div_right (c := Q1) h.hi
    rwa [Nat.mul_div_cancel _ hp] at this⟩
theorem Mid.four {f : Nat} (h : Mid f) : ∃ c, double.mul f 4616189618054758400 = some c ∧ c < 18446744073709551616 ∧ rung c < infR ∧ sgn c = false ∧ mval (rung c) = 4 * mval (rung f) := by
  have := mul4 h.fin (by
    obtain ⟨r, h1, h2⟩ := rungQ (4 * 4194305) (by omega)
    have hp := Q1_pos
    have h3 := mval_mono h1
    have h4 := h.hi
    rw [h2] at h3
    have : 4 * (4194304 * Q1) < 4 * 4194305 * Q1 := by rw [← Nat.mul_assoc]; exact Nat.mul_lt_mul_of_pos_right (by omega) hp
    omega)
  rwa [h.sg] at this

theorem whole_isQ (way : Toward) {c : Nat} (hc : rung c < infR) (hs : sgn c = false) (n : Nat) (hn : n < 2251799813685248) (h : wholeV way false (mval (rung c)) = n) : IsQ (double.write ((double.read c).integral way)) (4 * (n : Int)) := by
  obtain ⟨r, h1, h2⟩ := rungQ (4 * n) (by omega)
  have e : (4 * (n : Int)).natAbs = 4 * n := by omega
  rw [integral_exact way hc r (by omega) (by rw [hs, h, h2, K_Q1]; simp only [Nat.mul_assoc, Nat.mul_left_comm]), hs]
  have hd : false = decide (4 * (n : Int) < 0) := (decide_eq_false (by omega)).symm
  rw [hd]
  exact isQ_mk h1 (by rw [e]; exact h2)

theorem div_four (V : Nat) : 4 * V / 2 ^ K = V / Q1 := by rw [K_Q1, Nat.mul_div_mul_left _ _ (by omega)]
theorem mod_four (V : Nat) : 4 * V % 2 ^ K = 4 * (V % Q1) := by rw [K_Q1, Nat.mul_mod_mul_left]

/-- the floor, and the even whole number, of four times it -/
theorem Mid.floor {f c : Nat} (h : Mid f) (hc : rung c < infR) (hs : sgn c = false) (hv : mval (rung c) = 4 * mval (rung f)) : IsQ (floorW c) (4 * (qq f : Int)) := by
  have := h.qq_bd
  refine whole_isQ .down hc hs (qq f) (by omega) ?_
  unfold wholeV
  simp only [Bool.false_and, Bool.toNat_false, Nat.add_zero]
  rw [hv, div_four]; rfl
theorem Mid.even {f c : Nat} (h : Mid f) (hc : rung c < infR) (hs : sgn c = false) (hv : mval (rung c) = 4 * mval (rung f)) : IsQ (rteW c) (4 * (qn f : Int)) := by
  have hb := h.qq_bd
  have hqn : qn f ≤ qq f + 1 := by unfold qn; split <;> omega
  refine whole_isQ .even hc hs (qn f) (by omega) ?_
  unfold wholeV
  simp only
  rw [hv, div_four, mod_four]
  have e1 : mval (rung f) / Q1 = qq f := rfl
  have e2 : mval (rung f) % Q1 = qr f := rfl
  rw [e1, e2, K_Q1]
  unfold qn
  by_cases a : Q1 < 2 * qr f
  · rw [if_pos (.inl a)]
    have : decide (4 * Q1 < 2 * (4 * qr f)) = true := decide_eq_true (by omega)
    rw [this]; rfl
  · have a1 : decide (4 * Q1 < 2 * (4 * qr f)) = false := decide_eq_false (by omega)
    rw [a1]
    by_cases b : Q1 = 2 * qr f
    · have b1 : (4 * Q1 == 2 * (4 * qr f)) = true := by rw [beq_iff_eq]; omega
      rw [b1]
      by_cases d : qq f % 2 = 1
      · rw [if_pos (.inr ⟨b, d⟩), d]; rfl
      · rw [if_neg (by omega)]
        have : (qq f % 2 == 1) = false := by rw [beq_eq_false_iff_ne]; exact d
        rw [this]; rfl
    · have b1 : (4 * Q1 == 2 * (4 * qr f)) = false := by rw [beq_eq_false_iff_ne]; omega
      rw [b1, if_neg (by omega)]; rfl

/-- what is less than a float and counted in its own last place is a float -/
theorem Mid.rest {f : Nat} (h : Mid f) : (∃ r, r < infR ∧ mval r = qr f) ∧ (∃ r, r < infR ∧ mval r = Q1 - qr f) := by
  obtain ⟨M, E, k1, k2, k3, k4⟩ := mval_parts (rung f)
  have hp := Q1_pos
  obtain ⟨g1, g2⟩ := h.parts
  have hlow := h.lo
  have hfin := h.fin
  have hlt : ∀ r, mval r ≤ Q1 → r < infR := by
    intro r hr
    have : mval r < mval (rung f) := by omega
    have := mval_lt_iff.1 this
    omega
  by_cases hE : K - 2 ≤ E
  · have hq0 : qr f = 0 := by
      have : mval (rung f) = M * 2 ^ (E - (K - 2)) * Q1 := by
        rw [k1]; unfold Q1; rw [Nat.mul_assoc, ← Nat.pow_add]; congr 2; omega
      unfold qr; rw [this]; exact Nat.mul_mod_left _ _
    obtain ⟨r1, e1, e2⟩ := rungQ 1 (by omega)
    exact ⟨⟨0, by decide, by rw [hq0, mval_zero]⟩, ⟨r1, e1, by rw [e2, hq0]; omega⟩⟩
  · -- Q1 is a multiple of 2^E
    obtain ⟨J, hJ⟩ : ∃ J, Q1 = J * 2 ^ E := ⟨2 ^ (K - 2 - E), by unfold Q1; rw [← Nat.pow_add]; congr 1; omega⟩
    have hpe := Nat.two_pow_pos E
    have hr : qr f = (M % J) * 2 ^ E := by unfold qr; rw [k1, hJ, Nat.mul_mod_mul_right]
    have hJM : J ≤ M := by
      apply Nat.le_of_mul_le_mul_right _ hpe
      rw [← hJ, ← k1]; omega
    have hJ0 : 0 < J := by
      rcases Nat.eq_zero_or_pos J with h0 | h0
      · rw [h0, Nat.zero_mul] at hJ; omega
      · exact h0
    have hmod := Nat.mod_lt M hJ0
    obtain ⟨r1, e1⟩ := rep (M % J) E (by omega)
    obtain ⟨r2, e2⟩ := rep (J - M % J) E (by omega)
    have e3 : mval r2 = Q1 - qr f := by rw [e2, hr]; rw [Nat.sub_mul, ← hJ]
    exact ⟨⟨r1, hlt r1 (by rw [e1, ← hr]; omega), by rw [e1, hr]⟩, ⟨r2, hlt r2 (by rw [e3]; omega), e3⟩⟩

theorem Mid.ival {f : Nat} (h : Mid f) : Flt.ival f = (mval (rung f) : Int) := by unfold Flt.ival; rw [h.sg]; simp
theorem ival_negW (b : Nat) : ival (negW b) = -(ival b) := by
  rw [ival_eq, ival_eq, sgn_negW, rung_negW]
  cases sgn b <;> simp

/-- the two differences -/
theorem Mid.below {f lo : Nat} (h : Mid f) (hlo : IsQ lo (qq f : Int)) : ∃ d, double.sub f lo = some d ∧ isnan d = false ∧ key d = (rung d : Int) ∧ mval (rung d) = qr f := by
  obtain ⟨⟨r, h1, h2⟩, _⟩ := h.rest
  obtain ⟨g1, g2⟩ := h.parts
  have hrl : r < 9223372036854775808 := by unfold infR at h1; omega
  have hv : Flt.ival f + Flt.ival (negW lo) = (qr f : Int) := by rw [h.ival, ival_negW, hlo.iv, g1, Int.natCast_add, Int.natCast_mul]; omega
  rw [sub_add]
  refine ⟨mk false r, ?_, ?_, ?_, ?_⟩
  · rw [add_exact h.fin (by rw [rung_negW]; exact hlo.fin) r (by omega) (by rw [hv, h2]; omega), hv, h.sg]
    congr 2
    split
    · rfl
    · exact decide_eq_false (by omega)
  · rw [nan_rung', rung_mk hrl]; unfold infR at h1; omega
  · unfold key; rw [sgn_mk hrl]; simp
  · rw [rung_mk hrl]; exact h2
theorem Mid.above {f hi : Nat} (h : Mid f) (hhi : IsQ hi ((qq f : Int) + 1)) : ∃ d, double.sub hi f = some d ∧ isnan d = false ∧ key d = (rung d : Int) ∧ mval (rung d) = Q1 - qr f := by
  obtain ⟨_, ⟨r, h1, h2⟩⟩ := h.rest
  obtain ⟨g1, g2⟩ := h.parts
  have hrl : r < 9223372036854775808 := by unfold infR at h1; omega
  have hv : Flt.ival hi + Flt.ival (negW f) = ((Q1 - qr f : Nat) : Int) := by rw [ival_negW, h.ival, hhi.iv, g1, Int.natCast_add, Int.natCast_mul, Int.add_mul]; omega
  rw [sub_add]
  refine ⟨mk false r, ?_, ?_, ?_, ?_⟩
  · rw [add_exact hhi.fin (by rw [rung_negW]; exact h.fin) r (by omega) (by rw [hv, h2]; omega), hv]
    congr 2
    split
    · rename_i h0; omega
    · exact decide_eq_false (by omega)
  · rw [nan_rung', rung_mk hrl]; unfold infR at h1; omega
  · unfold key; rw [sgn_mk hrl]; simp
  · rw [rung_mk hrl]; exact h2

theorem quart_isQ : IsQ 4598175219545276416 1 := by
  have h0 := (ofInt_isQ 1 (by decide)).div4 (n := 1) (by decide)
  obtain ⟨c, h1, h2⟩ := h0
  have e : double.div (floatOfInt .f64 1) 4616189618054758400 = some 4598175219545276416 := by decide +kernel
  rw [e] at h1; cases h1; exact h2

/-- WHICH NEIGHBOUR THE REFERENCE TAKES -/
theorem Mid.choice {f d1 d2 : Nat} (h : Mid f) (n1 : isnan d1 = false) (n2 : isnan d2 = false) (k1 : key d1 = (rung d1 : Int)) (k2 : key d2 = (rung d2 : Int)) (v1 : mval (rung d1) = qr f) (v2 : mval (rung d2) = Q1 - qr f) :
    fgt d1 d2 = decide (Q1 < 2 * qr f) ∧ feq d1 d2 = decide (Q1 = 2 * qr f) := by
  obtain ⟨_, g2⟩ := h.parts
  have hlt := @mval_lt_iff (rung d2) (rung d1)
  have hlt' := @mval_lt_iff (rung d1) (rung d2)
  rw [v1, v2] at hlt hlt'
  constructor
  · unfold fgt; rw [flt_of n2 n1, k1, k2]
    apply decide_eq_decide.2; omega
  · rw [feq_of n1 n2, k1, k2]
    apply decide_eq_decide.2; omega
end Flt
namespace Flt
open Ieee Go
theorem key_pos {f : Nat} (h : 0 < key f) : sgn f = false ∧ key f = (rung f : Int) := by
  unfold key at h ⊢
  cases hs : sgn f
  · simp
  · rw [hs] at h; simp at h; omega
theorem mid_of {f : Nat} (hf : f < 18446744073709551616) (hn : isnan f = false) (h1 : flt f 4607182418800017408 = false) (h2 : fgt f 4697254411347427328 = false) : Mid f := by
  unfold fgt at h2
  rw [flt_of hn one_isQ.nan, decide_eq_false_iff_not] at h1
  rw [flt_of maxw_isQ.nan hn, decide_eq_false_iff_not] at h2
  have k1 : key 4607182418800017408 = 4607182418800017408 := by decide
  have k2 : key 4697254411347427328 = 4697254411347427328 := by decide
  rw [k1] at h1
  rw [k2] at h2
  obtain ⟨hs, hk⟩ := key_pos (f := f) (by omega)
  rw [hk] at h1 h2
  have v1 := one_isQ.val
  have v2 := maxw_isQ.val
  rw [show rung 4607182418800017408 = 4607182418800017408 by decide] at v1
  rw [show rung 4697254411347427328 = 4697254411347427328 by decide] at v2
  refine ⟨hf, hs, ?_, ?_⟩
  · have := mval_le (show 4607182418800017408 ≤ rung f by omega)
    rw [v1] at this; exact this
  · have := mval_le (show rung f ≤ 4697254411347427328 by omega)
    rw [v2] at this; exact this

/-- metric.Round's float, the program's way -/
noncomputable def rW (f : Nat) : Nat :=
  if isnan f then 0 else if flt f 4607182418800017408 || feq f 4607182418800017408 then 4607182418800017408 else if fgt f 4697254411347427328 || feq f 4697254411347427328 then 4697254411347427328 else qf (qn f)
def rE (f : Nat) : Int := if isnan f then 10 else 0
theorem qn_of_val {f : Nat} {n : Nat} (h : mval (rung f) = n * Q1) : qn f = n := by
  have hp := Q1_pos
  have e1 : qq f = n := by unfold qq; rw [h]; exact Nat.mul_div_cancel _ hp
  have e2 : qr f = 0 := by unfold qr; rw [h]; exact Nat.mul_mod_left _ _
  unfold qn; rw [e1, e2, if_neg (by omega)]
theorem IsQ.qn {f : Nat} {n : Nat} (h : IsQ f (n : Int)) : qn f = n := qn_of_val (by rw [h.val]; simp)
theorem feq_val {a b : Nat} (h : feq a b = true) : ival a = ival b := by
  unfold feq at h
  simp only [Bool.and_eq_true, decide_eq_true_eq] at h
  exact (key_eq_iff a b).1 h.2.2
theorem feq_mval {f b : Nat} {n : Nat} (hs : sgn f = false) (hb : IsQ b (n : Int)) (h : feq f b = true) : mval (rung f) = n * Q1 := by
  have := feq_val h
  rw [hb.iv, ival_eq, hs] at this
  simp at this
  exact_mod_cast this
/-- the reference's way -/
theorem rW_ref {f : Nat} (hf : f < 18446744073709551616) (hn : isnan f = false) (h1 : flt f 4607182418800017408 = false) (h2 : fgt f 4697254411347427328 = false) : rW f = qf (qn f) := by
  have hm := mid_of hf hn h1 h2
  unfold rW
  rw [hn, h1, h2]
  simp only [Bool.false_eq_true, if_false, Bool.false_or]
  by_cases a : feq f 4607182418800017408 = true
  · rw [if_pos a, qn_of_val (feq_mval (n := 4) hm.sg one_isQ a)]
    exact one_isQ.toQf
  · rw [if_neg a]
    by_cases b : feq f 4697254411347427328 = true
    · rw [if_pos b, qn_of_val (feq_mval (n := 4194304) hm.sg maxw_isQ b)]
      exact maxw_isQ.toQf
    · rw [if_neg b]
theorem rW_low {f : Nat} (hn : isnan f = false) (h1 : flt f 4607182418800017408 = true) : rW f = 4607182418800017408 := by unfold rW; rw [hn, h1]; rfl
theorem not_both {f : Nat} (h2 : fgt f 4697254411347427328 = true) : flt f 4607182418800017408 = false ∧ feq f 4607182418800017408 = false := by
  unfold fgt flt at h2
  simp only [Bool.and_eq_true, decide_eq_true_eq] at h2
  have k1 : key 4607182418800017408 = 4607182418800017408 := by decide
  have k2 : key 4697254411347427328 = 4697254411347427328 := by decide
  rw [k2] at h2
  have hn : isnan f = false := by simpa using h2.2.1
  rw [flt_of hn one_isQ.nan, feq_of hn one_isQ.nan, k1]
  exact ⟨decide_eq_false (by omega), decide_eq_false (by omega)⟩
theorem rW_high {f : Nat} (hn : isnan f = false) (h2 : fgt f 4697254411347427328 = true) : rW f = 4697254411347427328 := by
  unfold rW; rw [hn, (not_both h2).1, (not_both h2).2, h2]; rfl
theorem Mid.qn_bd {f : Nat} (h : Mid f) : 4 ≤ qn f ∧ qn f ≤ 4194304 := by
  have hb := h.qq_bd
  obtain ⟨g1, g2⟩ := h.parts
  have hp := Q1_pos
  have hh := h.hi
  unfold qn
  split
  · have : ¬ qq f = 4194304 := by
      intro e
      rw [e] at g1
      omega
    omega
  · exact hb
theorem rW_isQ {f : Nat} (hf : f < 18446744073709551616) (hn : isnan f = false) : ∃ n : Nat, 4 ≤ n ∧ n ≤ 4194304 ∧ IsQ (rW f) (n : Int) := by
  cases h1 : flt f 4607182418800017408
  · cases h2 : fgt f 4697254411347427328
    · have hm := mid_of hf hn h1 h2
      have hb := hm.qn_bd
      rw [rW_ref hf hn h1 h2]
      exact ⟨qn f, hb.1, hb.2, qf_isQ (by omega)⟩
    · rw [rW_high hn h2]; exact ⟨4194304, by omega, by omega, maxw_isQ⟩
  · rw [rW_low hn h1]; exact ⟨4, by omega, by omega, one_isQ⟩
theorem rW_lt {f : Nat} (hf : f < 18446744073709551616) : rW f < 18446744073709551616 := by
  cases hn : isnan f
  · obtain ⟨n, _, _, h⟩ := rW_isQ hf hn; exact h.lt
  · unfold rW; rw [hn, if_pos rfl]; omega
/-- what is a weight already stays -/
theorem rW_weight {f : Nat} (hf : f < 18446744073709551616) (h : withinI f 4697254411347427328 = 0) : feq (rW f) f = true := by
  obtain ⟨hn, hi, hs, h1, h2, hq⟩ := withinI_zero h
  have hm := mid_of hf hn h1 h2
  obtain ⟨n, hnv⟩ := (quarter_iff hm.fin (by
    obtain ⟨r, g1, g2⟩ := rungQ (4 * 4194305) (by omega)
    have hp := Q1_pos
    have g3 := mval_mono g1
    have g4 := hm.hi
    rw [g2] at g3
    have : 4 * (4194304 * Q1) < 4 * 4194305 * Q1 := by rw [← Nat.mul_assoc]; exact Nat.mul_lt_mul_of_pos_right (by omega) hp
    omega)).1 hq
  have hfq : IsQ f (n : Int) := ⟨hf, hm.fin, by rw [hs]; exact (decide_eq_false (by omega)).symm, by rw [hnv]; simp⟩
  rw [rW_ref hf hn h1 h2, hfq.qn, ← hfq.toQf, feq_self, hn]; rfl
end Flt
