/- Stable sorting: blocks that are each sorted in themselves, put together two by two. Plain Lean: no program. Conditions: as each theorem's hypotheses say. -/
import Derived.Test.YtjcgachdnkdamaaDoorSrt
namespace Flt
set_option linter.unusedVariables false
/-- a block: increasing, and with its own tags -/
def Bl (f t : Nat → Nat) (a b : Nat) : Prop := Inc f t a b ∧ ∀ i, a ≤ i → i < b → a ≤ t i ∧ t i < b
theorem Bl.congr {f t u : Nat → Nat} {a b : Nat} (h : Bl f t a b) (e : ∀ i, a ≤ i → i < b → u i = t i) : Bl f u a b :=
  ⟨h.1.congr e, fun i i0 i1 => by rw [e i i0 i1]; exact h.2 i i0 i1⟩
theorem Bl.of_id {f t u : Nat → Nat} {a b : Nat} (h : Rm a b t u) (hi : Inc f u a b) (e : ∀ i, a ≤ i → i < b → t i = i) : Bl f u a b :=
  ⟨hi, fun i i0 i1 => by
    obtain ⟨j, j0, j1, e2⟩ := h.2 i i0 i1
    rw [e2, e j j0 j1]; omega⟩
theorem Bl.lr {f t : Nat → Nat} {a m b : Nat} (h : Bl f t a m) (g : Bl f t m b) : LR t a m b := fun i j i0 i1 j0 j1 => by
  have := (h.2 i i0 i1).2
  have := (g.2 j j0 j1).1
  omega
theorem Bl.merged {f t u : Nat → Nat} {a m b : Nat} (h : Bl f t a m) (g : Bl f t m b) (hm : a ≤ m) (hb : m ≤ b) (hr : Rm a b t u) (hi : Inc f u a b) : Bl f u a b :=
  ⟨hi, fun i i0 i1 => by
    obtain ⟨j, j0, j1, e⟩ := hr.2 i i0 i1
    rw [e]
    by_cases hj : j < m
    · have := h.2 j j0 hj; omega
    · have := g.2 j (by omega) j1; omega⟩
/-- the first q blocks of k -/
def Lft (f t : Nat → Nat) (k q : Nat) : Prop := ∀ p, p < q → Bl f t (p * k) (p * k + k)
/-- the blocks of k from lo on, the last one cut off at n -/
def Bks (f t : Nat → Nat) (n k lo : Nat) : Prop := ∀ q, lo ≤ q * k → q * k < n → Bl f t (q * k) (min (q * k + k) n)
theorem blk_le {p q k : Nat} (h : p < q) : p * k + k ≤ q * k := by
  rw [← Nat.succ_mul]; exact Nat.mul_le_mul_right _ h
theorem Lft.zero (f t : Nat → Nat) (k : Nat) : Lft f t k 0 := fun p hp => absurd hp (Nat.not_lt_zero _)
theorem Lft.put {f t u : Nat → Nat} {k q : Nat} (h : Lft f t k q) (b : Bl f u (q * k) (q * k + k)) (e : ∀ i, i < q * k → u i = t i) : Lft f u k (q + 1) := fun p hp => by
  by_cases hq : p = q
  · subst hq; exact b
  · have := blk_le (k := k) (show p < q by omega)
    exact (h p (by omega)).congr fun i i0 i1 => e i (by omega)
theorem Lft.congr {f t u : Nat → Nat} {k q : Nat} (h : Lft f t k q) (e : ∀ i, i < q * k → u i = t i) : Lft f u k q := fun p hp => by
  have := blk_le (k := k) hp
  exact (h p hp).congr fun i i0 i1 => e i (by omega)
theorem Lft.bks {f u : Nat → Nat} {k q n : Nat} (h : Lft f u k q) (h0 : q * k ≤ n) (h1 : n < q * k + k) (b : q * k < n → Bl f u (q * k) n) : Bks f u n k 0 := fun p _ hp => by
  rcases Nat.lt_trichotomy p q with hq | hq | hq
  · have := blk_le (k := k) hq
    rw [Nat.min_eq_left (by omega)]; exact h p hq
  · subst hq
    rw [Nat.min_eq_right (by omega)]; exact b hp
  · have := blk_le (k := k) hq
    omega
theorem Bks.congr {f t u : Nat → Nat} {n k lo lo2 : Nat} (h : Bks f t n k lo) (hl : lo ≤ lo2) (e : ∀ i, lo2 ≤ i → u i = t i) : Bks f u n k lo2 := fun q h0 h1 =>
  (h q (by omega) h1).congr fun i i0 _ => e i (by omega)
theorem Bks.two {f t : Nat → Nat} {n k D q a : Nat} (h : Bks f t n k a) (hD : D = 2 * k) (ha : a = q * D) : (a < n → Bl f t a (min (a + k) n)) ∧ (a + k < n → Bl f t (a + k) (min (a + D) n)) := by
  have e : (2 * q) * k = a := by rw [ha, hD, ← Nat.mul_assoc, Nat.mul_comm q 2]
  have e2 : (2 * q + 1) * k = a + k := by rw [Nat.add_mul, e, Nat.one_mul]
  constructor
  · intro hn
    have := h (2 * q) (by omega) (by omega)
    rw [e] at this; exact this
  · intro hn
    have := h (2 * q + 1) (by omega) (by omega)
    rw [e2, show a + k + k = a + D by omega] at this; exact this
theorem Bks.all {f t : Nat → Nat} {n k : Nat} (h : Bks f t n k 0) (hk : n ≤ k) : Inc f t 0 n ∧ ∀ i, i < n → t i < n := by
  by_cases hn : 0 < n
  · have := h 0 (Nat.zero_le _) (by omega)
    rw [Nat.zero_mul, Nat.min_eq_right (by omega)] at this
    exact ⟨this.1, fun i hi => (this.2 i (Nat.zero_le _) hi).2⟩
  · exact ⟨fun i j _ _ hj => by omega, fun i hi => by omega⟩
/-- the first loop's step and end, the second's step and end, as the walk wants them -/
theorem ins_step {f t u : Nat → Nat} {a b q : Nat} (ha : a = q * 20) (hb : b = a + 20) (h : Lft f t 20 q) (hid : ∀ i, a ≤ i → t i = i) (hr : Rm a b t u) (hi : Inc f u a b) : b = (q + 1) * 20 ∧ Lft f u 20 (q + 1) ∧ ∀ i, b ≤ i → u i = i := by
  refine ⟨by omega, h.put ?_ fun i hi => hr.1 i (by omega), fun i hi => by rw [hr.1 i (.inr hi)]; exact hid i (by omega)⟩
  have hB := Bl.of_id hr hi fun i i0 _ => hid i i0
  rw [hb, ha] at hB
  exact hB
theorem ins_end {f t u : Nat → Nat} {a q n : Nat} (ha : a = q * 20) (h0 : a ≤ n) (h1 : n < a + 20) (h : Lft f t 20 q) (hid : ∀ i, a ≤ i → t i = i) (hr : Rm a n t u) (hi : Inc f u a n) : Bks f u n 20 0 := by
  subst ha
  exact (h.congr fun i hi => hr.1 i (.inl hi)).bks h0 h1 fun _ => Bl.of_id hr hi fun i i0 _ => hid i i0
theorem mrg_pre {f t : Nat → Nat} {n k D q a m b : Nat} (h : Bks f t n k a) (hD : D = 2 * k) (ha : a = q * D) (hm : m = a + k) (hb : b = a + D ∧ b ≤ n ∨ b = n ∧ n < a + D) (hmb : m < b) : Bl f t a m ∧ Bl f t m b := by
  have := h.two hD ha
  subst hm
  have h1 := this.1 (by omega)
  have h2 := this.2 (by omega)
  rw [Nat.min_eq_left (by omega)] at h1
  refine ⟨h1, ?_⟩
  rcases hb with ⟨rfl, hb⟩ | ⟨rfl, hb⟩
  · rw [Nat.min_eq_left hb] at h2; exact h2
  · rw [Nat.min_eq_right (by omega)] at h2; exact h2
theorem mrg_step {f t u : Nat → Nat} {n k D q a m b : Nat} (hL : Lft f t D q) (h : Bks f t n k a) (hD : D = 2 * k) (ha : a = q * D) (hm : m = a + k) (hb : b = a + D) (hbn : b ≤ n) (hk : 0 < k) (hr : Rm a b t u) (hi : Inc f u a b) : b = (q + 1) * D ∧ Lft f u D (q + 1) ∧ Bks f u n k b := by
  have P := mrg_pre h hD ha hm (.inl ⟨hb, hbn⟩) (by omega)
  have M := P.1.merged P.2 (by omega) (by omega) hr hi
  refine ⟨by rw [Nat.succ_mul]; omega, ?_, h.congr (by omega) fun i hi => hr.1 i (.inr hi)⟩
  rw [hb, ha] at M
  exact hL.put M fun i hi => hr.1 i (by omega)
theorem mrg_end {f t u : Nat → Nat} {n k D q a m b : Nat} (hL : Lft f t D q) (h : Bks f t n k a) (hD : D = 2 * k) (ha : a = q * D) (hm : m = a + k) (hb : b = a + D) (han : a ≤ n) (hbn : ¬ b ≤ n) (hk : 0 < k) (hmn : m < n) (hr : Rm a n t u) (hi : Inc f u a n) : Bks f u n D 0 := by
  have P := mrg_pre h hD ha hm (.inr ⟨rfl, by omega⟩) hmn
  have M := P.1.merged P.2 (by omega) (by omega) hr hi
  subst ha
  exact (hL.congr fun i hi => hr.1 i (.inl hi)).bks han (by omega) fun _ => M
theorem mrg_end2 {f t : Nat → Nat} {n k D q a m b : Nat} (hL : Lft f t D q) (h : Bks f t n k a) (hD : D = 2 * k) (ha : a = q * D) (hm : m = a + k) (hb : b = a + D) (han : a ≤ n) (hbn : ¬ b ≤ n) (hmn : ¬ m < n) : Bks f t n D 0 := by
  have P := (h.two hD ha).1
  subst ha
  refine hL.bks han (by omega) fun hlt => ?_
  have := P hlt
  rw [Nat.min_eq_right (by omega)] at this; exact this
end Flt
