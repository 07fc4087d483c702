/- Floats that are whole numbers of quarters: their sums, quotients by 4, their order are those of the integers; which floats are such. Plain Lean: no program. Condition: none beyond each theorem's own hypotheses. -/
import Derived.Test.YtjcgachdnkdamaaDoorFlb
namespace Flt
open Ieee Go

/-- a quarter, in units of the least place -/
@[irreducible] def Q1 : Nat := 2 ^ (K - 2)
theorem Q1_pos : 0 < Q1 := by unfold Q1; exact Nat.two_pow_pos _
theorem K_Q1 : 2 ^ K = 4 * Q1 := by
  unfold Q1
  have hK := K_eq
  rw [show K = (K - 2) + 2 by omega, Nat.pow_add, Nat.add_sub_cancel]; omega

structure IsQ (b : Nat) (n : Int) : Prop where make ::
  lt : b < 18446744073709551616
  fin : rung b < infR
  sg : sgn b = decide (n < 0)
  val : mval (rung b) = n.natAbs * Q1

theorem IsQ.iv {b : Nat} {n : Int} (h : IsQ b n) : ival b = n * Q1 := by
  rw [ival_eq, h.sg, h.val, Int.natCast_mul]
  by_cases hn : n < 0
  · simp only [hn, decide_true, if_true]
    rw [← Int.mul_assoc]; congr 1; omega
  · simp only [hn, decide_false, Bool.false_eq_true, if_false]
    rw [← Int.mul_assoc]; congr 1; omega

theorem IsQ.nan {b : Nat} {n : Int} (h : IsQ b n) : isnan b = false := by
  rw [nan_rung']; have := h.fin; unfold infR at this; omega
theorem IsQ.inf {b : Nat} {n : Int} (h : IsQ b n) : isinf b = false := by
  unfold isinf; have := h.fin; simp; omega

theorem IsQ.eq {a b : Nat} {n : Int} (ha : IsQ a n) (hb : IsQ b n) : a = b := by
  rw [← mk_eta ha.lt, ← mk_eta hb.lt, ha.sg, hb.sg]
  have : rung a = rung b := mval_inj (by rw [ha.val, hb.val])
  rw [this]
theorem IsQ.inj {b : Nat} {n m : Int} (h : IsQ b n) (k : IsQ b m) : n = m := by
  have e : n * Q1 = m * Q1 := by rw [← h.iv, ← k.iv]
  have := Q1_pos
  exact Int.eq_of_mul_eq_mul_right (by omega) e

theorem key_lt_iff (a b : Nat) : key a < key b ↔ ival a < ival b := by
  have h := ival_key a b
  simp only [compare, compareOfLessAndEq] at h
  by_cases h1 : ival a < ival b
  · rw [if_pos h1] at h
    by_cases h2 : key a < key b
    · exact ⟨fun _ => h1, fun _ => h2⟩
    · rw [if_neg h2] at h; split at h <;> cases h
  · rw [if_neg h1] at h
    by_cases h2 : key a < key b
    · rw [if_pos h2] at h; split at h <;> cases h
    · exact ⟨fun g => absurd g h2, fun g => absurd g h1⟩
theorem key_eq_iff (a b : Nat) : key a = key b ↔ ival a = ival b := by
  have h1 := key_lt_iff a b
  have h2 := key_lt_iff b a
  omega

theorem IsQ.ltQ {a b : Nat} {n m : Int} (ha : IsQ a n) (hb : IsQ b m) : flt a b = decide (n < m) := by
  rw [flt_of ha.nan hb.nan]
  apply decide_eq_decide.2
  rw [key_lt_iff, ha.iv, hb.iv]
  have := Q1_pos
  exact ⟨fun h => Int.lt_of_mul_lt_mul_right h (by omega), fun h => Int.mul_lt_mul_of_pos_right h (by omega)⟩
theorem IsQ.eqQ {a b : Nat} {n m : Int} (ha : IsQ a n) (hb : IsQ b m) : feq a b = decide (n = m) := by
  rw [feq_of ha.nan hb.nan]
  apply decide_eq_decide.2
  rw [key_eq_iff, ha.iv, hb.iv]
  have := Q1_pos
  exact ⟨fun h => Int.eq_of_mul_eq_mul_right (by omega) h, fun h => by rw [h]⟩

/-- every whole number of quarters below 2^53 of them is a float -/
theorem rungQ (n : Nat) (h : n < 9007199254740992) : ∃ r, r < infR ∧ mval r = n * Q1 := by
  obtain ⟨r, hr⟩ := rep n (K - 2) h
  refine ⟨r, ?_, by rw [hr]; unfold Q1; rfl⟩
  apply mval_lt_iff.1
  have hK := K_eq
  have hT := Ktop_eq
  rw [hr, mval_infR]
  have h1 : n * 2 ^ (K - 2) < 9007199254740992 * 2 ^ (K - 2) := Nat.mul_lt_mul_of_pos_right h (Nat.two_pow_pos _)
  have h2 : 9007199254740992 * 2 ^ (K - 2) = 4503599627370496 * 2 ^ (K - 1) := by
    rw [show K - 1 = (K - 2) + 1 by omega, Nat.pow_succ]; omega
  have h3 : 2 ^ (K - 1) ≤ 2 ^ Ktop := Nat.pow_le_pow_right (by omega) (by omega)
  have h4 := Nat.mul_le_mul_left 4503599627370496 h3
  omega

theorem mk_lt (s : Bool) {r : Nat} (h : r < infR) : mk s r < 18446744073709551616 := by
  unfold infR at h; unfold mk; split <;> omega

theorem isQ_mk {n : Int} {r : Nat} (hr : r < infR) (hv : mval r = n.natAbs * Q1) : IsQ (mk (decide (n < 0)) r) n := by
  have h2 : r < 9223372036854775808 := by unfold infR at hr; omega
  exact ⟨mk_lt _ hr, by rw [rung_mk h2]; exact hr, by rw [sgn_mk h2], by rw [rung_mk h2]; exact hv⟩

theorem exQ (n : Int) (h : n.natAbs < 9007199254740992) : ∃ b, IsQ b n := by
  obtain ⟨r, h1, h2⟩ := rungQ n.natAbs h
  exact ⟨_, isQ_mk h1 h2⟩

theorem IsQ.add {a b : Nat} {n m : Int} (ha : IsQ a n) (hb : IsQ b m) (h : (n + m).natAbs < 9007199254740992) : ∃ c, double.add a b = some c ∧ IsQ c (n + m) := by
  obtain ⟨r, h1, h2⟩ := rungQ (n + m).natAbs h
  have hv : ival a + ival b = (n + m) * Q1 := by rw [ha.iv, hb.iv, Int.add_mul]
  have hp := Q1_pos
  refine ⟨mk (decide (n + m < 0)) r, ?_, isQ_mk h1 h2⟩
  rw [add_exact ha.fin hb.fin r (by omega) (by rw [hv, Int.natAbs_mul, h2]; rfl)]
  congr 2
  by_cases h0 : n + m = 0
  · rw [hv, h0, Int.zero_mul, if_pos rfl, ha.sg, hb.sg]
    by_cases hn : n < 0
    · have : ¬ m < 0 := by omega
      simp [this]
    · simp [hn]
  · have hne : ¬ (n + m) * (Q1 : Int) = 0 := by
      intro h; rcases Int.mul_eq_zero.1 h with h | h
      · exact h0 h
      · omega
    rw [hv, if_neg hne]
    apply decide_eq_decide.2
    constructor
    · intro h; exact Int.lt_of_not_ge fun g => by have := Int.mul_nonneg g (show (0 : Int) ≤ Q1 by omega); omega
    · intro h; exact Int.mul_neg_of_neg_of_pos h (by omega)

/-- the bits of the other sign -/
def negW (b : Nat) : Nat := mk (!sgn b) (rung b)
theorem read_negW (b : Nat) : double.read (negW b) = (double.read b).opposite := by
  have hr := rung_lt b
  rw [read_eq, read_eq]
  unfold negW
  rw [rung_mk hr, sgn_mk hr]
  split
  · rfl
  · split
    · rfl
    · split <;> rfl
theorem sub_add (a b : Nat) : double.sub a b = double.add a (negW b) := by
  unfold Format.sub Format.add; rw [read_negW]
theorem sgn_negW (b : Nat) : sgn (negW b) = !sgn b := sgn_mk (rung_lt b)
theorem rung_negW (b : Nat) : rung (negW b) = rung b := rung_mk (rung_lt b)

/-- a difference of quarters that is not nought -/
theorem IsQ.sub {a b : Nat} {n m : Int} (ha : IsQ a n) (hb : IsQ b m) (h : (n - m).natAbs < 9007199254740992) : ∃ c, double.sub a b = some c ∧ (IsQ c (n - m)) := by
  obtain ⟨r, h1, h2⟩ := rungQ (n - m).natAbs h
  have hp := Q1_pos
  have hi : ival (negW b) = -(ival b) := by
    rw [ival_eq, ival_eq, sgn_negW, rung_negW]
    cases sgn b <;> simp
  have hv : ival a + ival (negW b) = (n - m) * Q1 := by rw [hi, ha.iv, hb.iv, Int.sub_mul]; omega
  rw [sub_add]
  refine ⟨mk (decide (n - m < 0)) r, ?_, isQ_mk h1 h2⟩
  rw [add_exact ha.fin (by rw [rung_negW]; exact hb.fin) r (by omega) (by rw [hv, Int.natAbs_mul, h2]; rfl)]
  congr 2
  by_cases h0 : n - m = 0
  · rw [hv, h0, Int.zero_mul, if_pos rfl, ha.sg, sgn_negW, hb.sg]
    by_cases hn : n < 0
    · have : m < 0 := by omega
      simp [this]
    · simp [hn]
  · have hne : ¬ (n - m) * (Q1 : Int) = 0 := by
      intro h; rcases Int.mul_eq_zero.1 h with h | h
      · exact h0 h
      · omega
    rw [hv, if_neg hne]
    apply decide_eq_decide.2
    constructor
    · intro h; exact Int.lt_of_not_ge fun g => by have := Int.mul_nonneg g (show (0 : Int) ≤ Q1 by omega); omega
    · intro h; exact Int.mul_neg_of_neg_of_pos h (by omega)

/-- float64(n), in quarters -/
theorem ofInt_isQ (n : Int) (h : n.natAbs < 2251799813685248) : IsQ (floatOfInt .f64 n) (4 * n) := by
  obtain ⟨r, h1, h2⟩ := rungQ (4 * n).natAbs (by omega)
  have e : (4 * n).natAbs = 4 * n.natAbs := by omega
  rw [ofInt_exact n r (by omega) (by rw [h2, K_Q1, e]; simp only [Nat.mul_assoc, Nat.mul_left_comm])]
  have hd : decide (n < 0) = decide (4 * n < 0) := by apply decide_eq_decide.2; omega
  rw [hd]
  exact isQ_mk h1 h2

theorem four_isQ : IsQ 4616189618054758400 16 := by
  refine ⟨by decide, by decide, by decide, ?_⟩
  have hK := K_eq
  have h1 := mval_of_parts 4503599627370496 (K - 50) (by omega) (.inr (by omega))
  have h2 : rung 4616189618054758400 = (K - 50) * 4503599627370496 + 4503599627370496 := by rw [hK]; decide
  have e : Q1 = 281474976710656 * 2 ^ (K - 50) := by
    unfold Q1
    rw [show K - 2 = 48 + (K - 50) by omega, Nat.pow_add]
  rw [h2, h1, e, ← Nat.mul_assoc]
  rfl

/-- x / 4 of 4 n quarters -/
theorem IsQ.div4 {x : Nat} {n : Int} (hx : IsQ x (4 * n)) (h : n.natAbs < 9007199254740992) : ∃ c, double.div x 4616189618054758400 = some c ∧ IsQ c n := by
  obtain ⟨r, h1, h2⟩ := rungQ n.natAbs h
  have hp := Q1_pos
  have hfv := four_isQ.val
  have hx2 := hx.val
  have e : (4 * n).natAbs = 4 * n.natAbs := by omega
  refine ⟨mk (decide (n < 0)) r, ?_, isQ_mk h1 h2⟩
  rw [div_exact hx.fin four_isQ.fin (by rw [hfv]; have : (16 : Int).natAbs = 16 := rfl; rw [this]; omega) r (by omega)
    (by rw [hx2, h2, hfv, K_Q1, e, show (16 : Int).natAbs = 4 * 4 from rfl]; simp only [Nat.mul_assoc, Nat.mul_left_comm])]
  rw [hx.sg, four_isQ.sg]
  have hd : decide (4 * n < 0) = decide (n < 0) := by apply decide_eq_decide.2; omega
  rw [hd]; simp

/-- four times a finite float that is not too great: exact -/
theorem mul4 {x : Nat} (hx : rung x < infR) (h : 4 * mval (rung x) < mval infR) : ∃ c, double.mul x 4616189618054758400 = some c ∧ c < 18446744073709551616 ∧ rung c < infR ∧ sgn c = sgn x ∧ mval (rung c) = 4 * mval (rung x) := by
  obtain ⟨M, E, k1, k2, k3, _⟩ := mval_parts (rung x)
  obtain ⟨r, hr⟩ := rep M (E + 2) k3
  have hr4 : mval r = 4 * mval (rung x) := by rw [hr, k1, Nat.pow_add, ← Nat.mul_assoc]; omega
  have hlt : r < infR := by
    apply mval_lt_iff.1
    rw [hr4]; exact h
  have h2 : r < 9223372036854775808 := by unfold infR at hlt; omega
  refine ⟨mk (sgn x) r, ?_, mk_lt _ hlt, by rw [rung_mk h2]; exact hlt, sgn_mk h2, by rw [rung_mk h2]; exact hr4⟩
  rw [mul_exact hx four_isQ.fin r (by omega) (by rw [four_isQ.val, hr4, K_Q1, show (16 : Int).natAbs = 4 * 4 from rfl]; simp only [Nat.mul_assoc, Nat.mul_left_comm])]
  rw [four_isQ.sg]; simp

/-- WHICH FLOATS PASS 'quarter' -/
theorem quarter_iff {x : Nat} (hx : rung x < infR) (h : 4 * mval (rung x) < mval infR) : quarterB x = true ↔ ∃ n : Nat, mval (rung x) = n * Q1 := by
  obtain ⟨c, h1, h2, h3, h4, h5⟩ := mul4 hx h
  unfold quarterB
  rw [h1]
  simp only
  -- the whole part of c
  have hp := Q1_pos
  have hw : wholeV .zero (sgn c) (mval (rung c)) = mval (rung c) / 2 ^ K := rfl
  obtain ⟨M, E, k1, k2, k3, k4⟩ := mval_parts (rung c)
  have hrep : ∃ r, r ≤ rung c ∧ mval r = mval (rung c) / 2 ^ K * 2 ^ K := by
    by_cases hE : K ≤ E
    · refine ⟨rung c, Nat.le_refl _, ?_⟩
      have : mval (rung c) = M * 2 ^ (E - K) * 2 ^ K := by rw [k1, Nat.mul_assoc, ← Nat.pow_add]; congr 2; omega
      rw [this, Nat.mul_div_cancel _ (Nat.two_pow_pos K)]
    · have hpw : 2 ^ K = 2 ^ (K - E) * 2 ^ E := by rw [← Nat.pow_add]; congr 1; omega
      have hd : mval (rung c) / 2 ^ K = M / 2 ^ (K - E) := by rw [k1, hpw, Nat.mul_div_mul_right _ _ (Nat.two_pow_pos E)]
      obtain ⟨r, hr⟩ := rep (M / 2 ^ (K - E)) K (Nat.lt_of_le_of_lt (Nat.div_le_self _ _) k3)
      have hv : mval r = mval (rung c) / 2 ^ K * 2 ^ K := by rw [hr, hd]
      refine ⟨r, ?_, hv⟩
      rcases Nat.lt_or_ge (rung c) r with hc | hc
      · have := mval_mono hc
        have := Nat.div_mul_le_self (mval (rung c)) (2 ^ K)
        omega
      · exact hc
  obtain ⟨r, hr1, hr2⟩ := hrep
  have ht : truncW c = mk (sgn c) r := integral_exact .zero h3 r (by omega) (by rw [hw, hr2])
  have hrl : r < 9223372036854775808 := by have := rung_lt c; omega
  have hnc : isnan c = false := by rw [nan_rung']; unfold infR at h3; omega
  have hnt : isnan (truncW c) = false := by rw [nan_rung', ht, rung_mk hrl]; unfold infR at h3; omega
  rw [feq_of hnc hnt, decide_eq_true_eq, ht]
  have hkey : key c = key (mk (sgn c) r) ↔ rung c = r := by
    unfold key; rw [rung_mk hrl, sgn_mk hrl]; split <;> omega
  rw [hkey]
  constructor
  · intro he
    refine ⟨mval (rung c) / 2 ^ K, ?_⟩
    have e2 : mval (rung c) = mval (rung c) / 2 ^ K * 2 ^ K := by rw [← hr2, ← he]
    have e3 : 4 * mval (rung x) = 4 * (mval (rung c) / 2 ^ K * Q1) := by
      rw [← h5]; conv => lhs; rw [e2]
      rw [show ∀ z : Nat, z * 2 ^ K = 4 * (z * Q1) from fun z => by rw [K_Q1]; simp only [Nat.mul_left_comm]]
    omega
  · rintro ⟨n, hn⟩
    apply mval_inj
    rw [hr2]
    have e : mval (rung c) = n * 2 ^ K := by rw [h5, hn, K_Q1]; simp only [Nat.mul_left_comm]
    rw [e, Nat.mul_div_cancel _ (Nat.two_pow_pos K)]
end Flt
namespace Flt
open Ieee Go

open Classical in
noncomputable def qf (n : Int) : Nat := if h : ∃ b, IsQ b n then h.choose else 0
theorem qf_isQ {n : Int} (h : n.natAbs < 9007199254740992) : IsQ (qf n) n := by
  have hx := exQ n h
  unfold qf; rw [dif_pos hx]; exact hx.choose_spec
theorem IsQ.toQf {b : Nat} {n : Int} (h : IsQ b n) : b = qf n := by
  have hx : ∃ b, IsQ b n := ⟨b, h⟩
  unfold qf; rw [dif_pos hx]; exact h.eq hx.choose_spec
theorem qf_inj {n m : Int} (hn : n.natAbs < 9007199254740992) (hm : m.natAbs < 9007199254740992) (h : qf n = qf m) : n = m := by
  have h1 := qf_isQ hn
  rw [h] at h1
  exact h1.inj (qf_isQ hm)

/-- a distance under a limit: some quarters, or too far -/
noncomputable def fl : Option Int → Nat
  | none => 9218868437227405312
  | some n => qf n
def eadd (L n : Int) : Option Int → Option Int
  | none => none
  | some m => if n + m < L then some (n + m) else none

theorem pinf_nan : isnan 9218868437227405312 = false := by decide
theorem pinf_key : key 9218868437227405312 = 9218868437227405312 := by decide
theorem zero_isQ : IsQ 0 0 := ⟨by decide, by decide, by decide, by rw [show rung 0 = 0 from rfl, mval_zero]; simp⟩
theorem IsQ.key_lt_inf {b : Nat} {n : Int} (h : IsQ b n) : key b < 9218868437227405312 := by
  have := h.fin; unfold infR at this; unfold key; split <;> omega

/-- the sum of a finite word and infinity -/
theorem add_inf {x : Nat} (hx : rung x < infR) : double.add x 9218868437227405312 = some 9218868437227405312 := by
  obtain ⟨m, p, h1, _⟩ := read_fin hx
  have h2 : double.read 9218868437227405312 = .infinity false := by
    have := read_inf (b := 9218868437227405312) (by decide)
    exact this
  unfold Format.add
  rw [h1, h2]
  rfl

theorem addF_fl {L n : Int} {M : Nat} {o : Option Int} (hM : IsQ M L) (hn : n.natAbs < 4503599627370496) (ho : ∀ m, o = some m → m.natAbs < 4503599627370496) :
    addF (qf n) (fl o) M = fl (eadd L n o) := by
  have hx := qf_isQ (n := n) (by omega)
  cases o with
  | none =>
    unfold addF fl eadd
    simp only
    rw [add_inf hx.fin]
    simp only
    have h1 : flt 9218868437227405312 M = false := by
      rw [flt_of pinf_nan hM.nan, pinf_key]
      have := hM.key_lt_inf
      exact decide_eq_false (by omega)
    rw [h1]; rfl
  | some m =>
    have hmm := ho m rfl
    have hy := qf_isQ (n := m) (by omega)
    obtain ⟨c, h1, h2⟩ := hx.add hy (by omega)
    unfold addF fl eadd
    simp only
    rw [h1]
    simp only
    rw [h2.ltQ hM, h2.eqQ zero_isQ]
    by_cases h3 : n + m < L
    · rw [if_pos (by simpa using h3), if_pos h3]
      by_cases h4 : n + m = 0
      · rw [if_pos (by simpa using h4)]
        rw [h4]
        exact zero_isQ.toQf
      · rw [if_neg (by simpa using h4)]
        exact h2.toQf
    · rw [if_neg (by simpa using h3), if_neg h3]

/-- how two such stand -/
def elt : Option Int → Option Int → Bool
  | some n, some m => decide (n < m)
  | some _, none => true
  | none, _ => false
theorem fl_nan {o : Option Int} (h : ∀ m, o = some m → m.natAbs < 9007199254740992) : isnan (fl o) = false := by
  cases o with
  | none => exact pinf_nan
  | some m => exact (qf_isQ (h m rfl)).nan
theorem flt_fl {o p : Option Int} (ho : ∀ m, o = some m → m.natAbs < 9007199254740992) (hp : ∀ m, p = some m → m.natAbs < 9007199254740992) : flt (fl o) (fl p) = elt o p := by
  cases o with
  | none =>
    cases p with
    | none => unfold fl elt; simp only; rw [flt_of pinf_nan pinf_nan]; simp
    | some m =>
      have h2 := qf_isQ (hp m rfl)
      unfold fl elt; simp only; rw [flt_of pinf_nan h2.nan, pinf_key]
      have := h2.key_lt_inf
      exact decide_eq_false (by omega)
  | some n =>
    have h1 := qf_isQ (ho n rfl)
    cases p with
    | none =>
      unfold fl elt; simp only; rw [flt_of h1.nan pinf_nan, pinf_key]
      exact decide_eq_true h1.key_lt_inf
    | some m => unfold fl elt; simp only; exact h1.ltQ (qf_isQ (hp m rfl))

/-- a quarter's test, of a whole number of quarters -/
theorem IsQ.quarterB {b : Nat} {n : Int} (h : IsQ b n) (hn : n.natAbs < 2251799813685248) : quarterB b = true := by
  have hp := Q1_pos
  refine (quarter_iff h.fin ?_).2 ⟨n.natAbs, h.val⟩
  obtain ⟨r, h1, h2⟩ := rungQ (4 * n.natAbs) (by omega)
  have := mval_mono h1
  rw [h2, Nat.mul_assoc] at this
  rw [h.val]; exact this

theorem one_isQ : IsQ 4607182418800017408 4 := by
  have := ofInt_isQ 1 (by decide)
  have e : floatOfInt .f64 1 = 4607182418800017408 := by decide +kernel
  rw [e] at this; exact this
theorem maxl_isQ : IsQ 4742290407621132288 4294967296 := by
  have := ofInt_isQ 1073741824 (by decide)
  have e : floatOfInt .f64 1073741824 = 4742290407621132288 := by decide +kernel
  rw [e] at this; exact this
theorem maxw_isQ : IsQ 4697254411347427328 4194304 := by
  have := ofInt_isQ 1048576 (by decide)
  have e : floatOfInt .f64 1048576 = 4697254411347427328 := by decide +kernel
  rw [e] at this; exact this

/-- within, of a whole number of quarters from 1 on -/
theorem IsQ.within {b M : Nat} {n L : Int} (h : IsQ b n) (hM : IsQ M L) (h1 : 4 ≤ n) (h2 : n ≤ L) (h3 : n < 2251799813685248) : withinI b M = 0 := by
  unfold withinI
  rw [h.nan, h.inf, h.sg, h.ltQ one_isQ, h.quarterB (by omega)]
  have e1 : decide (n < 0) = false := decide_eq_false (by omega)
  have e2 : decide (n < 4) = false := decide_eq_false (by omega)
  have e3 : fgt b M = false := by unfold fgt; rw [hM.ltQ h]; exact decide_eq_false (by omega)
  rw [e1, e2, e3]; rfl

/-- Dist, of such a distance -/
theorem distI_fl {L : Int} {M : Nat} {o : Option Int} (hM : IsQ M L) (h1 : 4 ≤ L) (h2 : L ≤ 4294967296) (ho : ∀ m, o = some m → 0 ≤ m ∧ m < L) : distI (fl o) M = 0 := by
  unfold distI
  rw [if_pos (hM.within maxl_isQ h1 h2 (by omega))]
  cases o with
  | none =>
    unfold fl; simp only
    have e1 : sgn 9218868437227405312 = false := by decide
    have e2 : isPinf 9218868437227405312 = true := by decide
    rw [pinf_nan, e1, e2]; rfl
  | some m =>
    obtain ⟨g1, g2⟩ := ho m rfl
    have h := qf_isQ (n := m) (by omega)
    unfold fl; simp only
    have e1 : decide (m < 0) = false := decide_eq_false (by omega)
    have e3 : isPinf (qf m) = false := by unfold isPinf; rw [h.inf]; rfl
    rw [h.nan, h.sg, e1, e3, h.ltQ hM, h.quarterB (by omega), decide_eq_true g2]; rfl

/-- the float of n / 4 -/
theorem div4_qf {n : Int} (h : n.natAbs < 2251799813685248) : floatBits .quo .f64 (floatOfInt .f64 n) 4616189618054758400 = some (qf n) := by
  obtain ⟨c, h1, h2⟩ := (ofInt_isQ n h).div4 (by omega)
  rw [← h2.toQf]; exact h1
end Flt
namespace Flt
open Ieee Go
/-- the greatest limit, in quarters -/
def LQ : Int := 4294967296
theorem maxl_LQ : IsQ 4742290407621132288 LQ := maxl_isQ
/-- the sum under the greatest limit -/
def eaddL (n : Int) (o : Option Int) : Option Int := eadd LQ n o
def okE (o : Option Int) : Prop := ∀ m, o = some m → 0 ≤ m ∧ m < LQ
theorem okE_add {n : Int} {o : Option Int} (hn : 0 ≤ n) (ho : okE o) : okE (eaddL n o) := by
  intro m hm
  unfold eaddL eadd at hm
  cases o with
  | none => cases hm
  | some k =>
    simp only at hm
    split at hm
    · cases hm
      have := ho k rfl
      omega
    · cases hm
theorem addF_L {n : Int} {o : Option Int} (hn : 0 ≤ n) (hn2 : n < 4503599627370496) (ho : okE o) : addF (qf n) (fl o) 4742290407621132288 = fl (eaddL n o) :=
  addF_fl maxl_LQ (by omega) (fun m hm => by have := ho m hm; unfold LQ at this; omega)
theorem eaddL_comm (x y d : Int) (hx : 0 ≤ x) (hy : 0 ≤ y) : eaddL y (eaddL x (some d)) = eaddL x (eaddL y (some d)) := by
  unfold eaddL eadd LQ
  by_cases h1 : x + d < 4294967296 <;> by_cases h2 : y + d < 4294967296 <;> simp only [h1, h2, if_true, if_false]
  · have e : y + (x + d) = x + (y + d) := by omega
    rw [e]
  · rw [if_neg (by omega)]
  · rw [if_neg (by omega)]
theorem okE_nat {o : Option Int} (ho : okE o) : ∀ m, o = some m → m.natAbs < 9007199254740992 := fun m hm => by have := ho m hm; unfold LQ at this; omega
theorem feq_fl {o p : Option Int} (ho : okE o) (hp : okE p) : feq (fl o) (fl p) = (!elt o p && !elt p o) := by
  have n1 := fl_nan (okE_nat ho)
  have n2 := fl_nan (okE_nat hp)
  have h1 := flt_fl (okE_nat ho) (okE_nat hp)
  have h2 := flt_fl (okE_nat hp) (okE_nat ho)
  rw [flt_of n1 n2] at h1
  rw [flt_of n2 n1] at h2
  rw [feq_of n1 n2, ← h1, ← h2]
  by_cases a : key (fl o) < key (fl p) <;> by_cases b : key (fl p) < key (fl o) <;> by_cases c : key (fl o) = key (fl p) <;> simp [a, b, c] <;> omega
theorem elt_add {x d : Int} (hx : 0 < x) : elt (eaddL x (some d)) (some d) = false ∧ elt (some d) (eaddL x (some d)) = true := by
  unfold eaddL eadd elt
  by_cases h : x + d < LQ
  · simp only [h, if_true]
    exact ⟨decide_eq_false (by omega), decide_eq_true (by omega)⟩
  · simp [h]
theorem elt_mono {x y d : Int} (h : x ≤ y) : elt (eaddL y (some d)) (eaddL x (some d)) = false := by
  unfold eaddL eadd elt
  by_cases h1 : y + d < LQ
  · have h2 : x + d < LQ := by omega
    simp only [h1, h2, if_true]
    exact decide_eq_false (by omega)
  · simp only [h1, if_false]
theorem cmpI_fl {o p : Option Int} (ho : okE o) (hp : okE p) (h : elt p o = false) : cmpI (fl o) (fl p) ≤ 0 := by
  unfold cmpI
  rw [fl_nan (okE_nat ho), fl_nan (okE_nat hp)]
  have h2 : fgt (fl o) (fl p) = false := by unfold fgt; rw [flt_fl (okE_nat hp) (okE_nat ho)]; exact h
  rw [h2]
  simp only [Bool.false_eq_true, if_false]
  split <;> omega
end Flt
