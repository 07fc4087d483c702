/- Sums of quarters: a sum turned or with two places exchanged is the same; the sum that is made good is exact. Plain Lean: no program. Condition: at most 1024 numbers of 32 bits. -/
import Derived.Test.YtjcgachdnkdamaaDoorSsp
import Derived.Test.YtjcgachdnkdamaaDoorGen
namespace Flt
open Ieee Go Go.Mem

def sumN (f : Nat → Int) : Nat → Int
  | 0 => 0
  | k + 1 => sumN f k + f k
def Small (f : Nat → Int) (n : Nat) : Prop := ∀ i, i < n → -2147483648 ≤ f i ∧ f i ≤ 2147483648
theorem sumN_bd {f : Nat → Int} {n : Nat} (h : Small f n) : ∀ k, k ≤ n → -(2147483648 * (k : Int)) ≤ sumN f k ∧ sumN f k ≤ 2147483648 * (k : Int) := by
  intro k
  induction k with
  | zero => intro _; simp [sumN]
  | succ k ih =>
    intro hk
    have h1 := ih (by omega)
    have h2 := h k (by omega)
    show -(2147483648 * ((k + 1 : Nat) : Int)) ≤ sumN f k + f k ∧ sumN f k + f k ≤ _
    omega
theorem sumN_congr {f g : Nat → Int} (k : Nat) (h : ∀ i, i < k → f i = g i) : sumN f k = sumN g k := by
  induction k with
  | zero => rfl
  | succ k ih =>
    show sumN f k + f k = sumN g k + g k
    rw [ih fun i hi => h i (by omega), h k (by omega)]
theorem sumN_next (f : Nat → Int) (k : Nat) : sumN (fun i => f (i + 1)) k = sumN f k - f 0 + f k := by
  induction k with
  | zero => show (0 : Int) = 0 - f 0 + f 0; omega
  | succ k ih =>
    show sumN (fun i => f (i + 1)) k + f (k + 1) = sumN f k + f k - f 0 + f (k + 1)
    rw [ih]; omega
theorem sumN_rot (f : Nat → Int) (K B : Nat) : sumN (fun i => f ((i + B) % K)) K = sumN f K := by
  induction B with
  | zero => exact sumN_congr K fun i hi => by rw [Nat.add_zero, Nat.mod_eq_of_lt hi]
  | succ B ih =>
    have h := sumN_next (fun i => f ((i + B) % K)) K
    rw [ih] at h
    have e : (fun i => f ((i + (B + 1)) % K)) = fun i => f ((i + 1 + B) % K) := by
      funext i; rw [show i + (B + 1) = i + 1 + B by omega]
    rw [e]
    refine Eq.trans h ?_
    simp only [Nat.zero_add, Nat.add_mod_left]
    omega
def upd (f : Nat → Int) (i : Nat) (v : Int) : Nat → Int := fun j => if j = i then v else f j
theorem sumN_upd (f : Nat → Int) (v : Int) {i k : Nat} (h : i < k) : sumN (upd f i v) k = sumN f k - f i + v := by
  induction k with
  | zero => omega
  | succ k ih =>
    show sumN (upd f i v) k + upd f i v k = sumN f k + f k - f i + v
    by_cases e : i = k
    · subst e
      rw [sumN_congr (f := upd f i v) (g := f) i fun j hj => by unfold upd; rw [if_neg (by omega)]]
      unfold upd; rw [if_pos rfl]; omega
    · rw [ih (by omega)]
      have : upd f i v k = f k := by unfold upd; rw [if_neg (by omega)]
      rw [this]; omega
def swpF (f : Nat → Int) (i j : Nat) : Nat → Int := upd (upd f i (f j)) j (f i)
theorem sumN_swp (f : Nat → Int) {i j k : Nat} (hi : i < k) (hj : j < k) (h : i ≠ j) : sumN (swpF f i j) k = sumN f k := by
  unfold swpF
  rw [sumN_upd _ _ hj, sumN_upd _ _ hi]
  have : upd f i (f j) j = f j := by unfold upd; rw [if_neg (by omega)]
  rw [this]; omega
theorem swpF_small {f : Nat → Int} {i j n : Nat} (h : Small f n) (hi : i < n) (hj : j < n) : Small (swpF f i j) n := by
  intro t ht
  unfold swpF upd
  split
  · exact h i hi
  · split
    · exact h j hj
    · exact h t ht
theorem isQ_zero {b : Nat} {n : Int} (h : IsQ b n) (e : n = 0) : b = 0 := by subst e; exact h.eq zero_isQ
theorem mid_Q {S q : Int} (hS : S.natAbs < 4503599627370496) (hq : q.natAbs < 4503599627370496) : midS (qf S) (qf (S + q)) (qf q) = some 0 := by
  have iS := qf_isQ (n := S) (by omega)
  have iq := qf_isQ (n := q) (by omega)
  have iT := qf_isQ (n := S + q) (by omega)
  unfold midS
  split
  · obtain ⟨c, h1, h2⟩ := iS.sub iT (by omega)
    obtain ⟨d, h3, h4⟩ := h2.add iq (by omega)
    rw [h1]
    show double.add c (qf q) = _
    rw [h3, isQ_zero h4 (by omega)]
  · obtain ⟨c, h1, h2⟩ := iq.sub iT (by omega)
    obtain ⟨d, h3, h4⟩ := h2.add iS (by omega)
    rw [h1]
    show double.add c (qf S) = _
    rw [h3, isQ_zero h4 (by omega)]
theorem add_Q {S q : Int} (hS : S.natAbs < 4503599627370496) (hq : q.natAbs < 4503599627370496) : double.add (qf S) (qf q) = some (qf (S + q)) := by
  obtain ⟨c, h1, h2⟩ := (qf_isQ (n := S) (by omega)).add (qf_isQ (n := q) (by omega)) (by omega)
  rw [h1, h2.toQf]
theorem qf_zero : qf 0 = 0 := isQ_zero (qf_isQ (by decide)) rfl
theorem sumTo_Q {l : List Nat} {f : Nat → Int} {n : Nat} (hn : n ≤ 1024) (h : Small f n) (hl : ∀ i, i < n → fat l i = qf (f i)) : ∀ k, k ≤ n → sumTo l k = some (qf (sumN f k), some 0) := by
  intro k
  induction k with
  | zero => intro _; show some (0, some 0) = some (qf 0, some 0); rw [qf_zero]
  | succ k ih =>
    intro hk
    have hb := sumN_bd h k (by omega)
    have hq := h k (by omega)
    refine sumTo_step (ih (by omega)) ?_
    rw [hl k (by omega)]
    have iq := qf_isQ (n := f k) (by omega)
    have iT := qf_isQ (n := sumN f k + f k) (by omega)
    unfold stepS
    rw [if_neg (by rw [iq.nan, iq.inf]; decide), add_Q (by omega) (by omega)]
    simp only [iT.inf, mid_Q (S := sumN f k) (q := f k) (by omega) (by omega)]
    have : double.add 0 0 = some 0 := by decide +kernel
    simp [sumN, this]
theorem sumS_Q {l : List Nat} {f : Nat → Int} {n : Nat} (hn : n ≤ 1024) (h : Small f n) (hl : ∀ i, i < n → fat l i = qf (f i)) : sumS l n = qf (sumN f n) := by
  have hb := sumN_bd h n (Nat.le_refl _)
  have iT := qf_isQ (n := sumN f n) (by omega)
  have h0 : double.add (qf (sumN f n)) 0 = some (qf (sumN f n)) := by
    have := add_Q (S := sumN f n) (q := 0) (by omega) (by decide)
    rw [qf_zero, Int.add_zero] at this; exact this
  unfold sumS
  rw [sumTo_Q hn h hl n (Nat.le_refl _)]
  show toldS ((some 0).bind (double.add (qf (sumN f n)))) = _
  show toldS (double.add (qf (sumN f n)) 0) = _
  rw [h0]
  unfold toldS
  simp only []
  split
  · rename_i hz
    rw [iT.eqQ zero_isQ] at hz
    rw [of_decide_eq_true hz, qf_zero]
  · rfl
end Flt
