/- Stable sorting: the order of tags (a float's place, then where it lay); rows as functions of tags; rotating, exchanging, merging; two ways of arranging that are both increasing are one. Plain Lean: no program. Conditions: as each theorem's hypotheses say. -/
import Derived.Test.YtjcgachdnkdamaaDoorFlb
namespace Flt
open Ieee
/-- a float's place in the order: its key; a NaN is past all -/
def plc (a : Nat) : Int := if isnan a then 9223372036854775808 else key a
theorem cmpI_plc (a b : Nat) : cmpI a b < 0 ↔ plc a < plc b := by
  have k1 := key_bd a
  have k2 := key_bd b
  unfold cmpI plc
  cases ha : isnan a <;> cases hb : isnan b <;> simp only [if_true, if_false, Bool.false_eq_true]
  · have h2 : fgt a b = flt b a := rfl
    rw [h2, flt_of ha hb, flt_of hb ha]
    by_cases k1 : key a < key b
    · rw [if_pos (by simpa using k1)]; omega
    · rw [if_neg (by simpa using k1)]
      by_cases k2 : key b < key a
      · rw [if_pos (by simpa using k2)]; omega
      · rw [if_neg (by simpa using k2)]; omega
  · first | omega | (simp; omega)
  · first | omega | (simp; omega)
  · first | omega | simp
/-- the order of tags -/
def pre (f : Nat → Nat) (x y : Nat) : Prop := plc (f x) < plc (f y) ∨ (plc (f x) = plc (f y) ∧ x < y)
theorem pre_trans {f : Nat → Nat} {x y z : Nat} (h : pre f x y) (g : pre f y z) : pre f x z := by unfold pre at *; omega
theorem pre_irr {f : Nat → Nat} {x : Nat} (h : pre f x x) : False := by unfold pre at h; omega
theorem pre_asym {f : Nat → Nat} {x y : Nat} (h : pre f x y) (g : pre f y x) : False := pre_irr (pre_trans h g)
theorem pre_total {f : Nat → Nat} {x y : Nat} (h : x ≠ y) : pre f x y ∨ pre f y x := by unfold pre; omega
/-- what a comparison of a later tag with an earlier one tells -/
theorem pre_cmp {f : Nat → Nat} {x y : Nat} (h : x < y) : cmpI (f y) (f x) < 0 ↔ pre f y x := by
  rw [cmpI_plc]; unfold pre; omega
theorem pre_not {f : Nat → Nat} {x y : Nat} (h : x < y) (g : ¬ cmpI (f y) (f x) < 0) : pre f x y := by
  rw [cmpI_plc] at g; unfold pre; omega
def Inc (f : Nat → Nat) (s : Nat → Nat) (a b : Nat) : Prop := ∀ i j, a ≤ i → i < j → j < b → pre f (s i) (s j)
def LR (s : Nat → Nat) (a m b : Nat) : Prop := ∀ i j, a ≤ i → i < m → m ≤ j → j < b → s i < s j
def Rm (a b : Nat) (s t : Nat → Nat) : Prop := (∀ i, (i < a ∨ b ≤ i) → t i = s i) ∧ ∀ i, a ≤ i → i < b → ∃ j, a ≤ j ∧ j < b ∧ t i = s j
theorem Rm.refl (a b : Nat) (s : Nat → Nat) : Rm a b s s := ⟨fun _ _ => rfl, fun i h0 h1 => ⟨i, h0, h1, rfl⟩⟩
theorem Rm.trans {a b : Nat} {s t u : Nat → Nat} (h : Rm a b s t) (g : Rm a b t u) : Rm a b s u :=
  ⟨fun i hi => (g.1 i hi).trans (h.1 i hi), fun i h0 h1 => by
    obtain ⟨j, j0, j1, e⟩ := g.2 i h0 h1
    obtain ⟨k, k0, k1, e2⟩ := h.2 j j0 j1
    exact ⟨k, k0, k1, e.trans e2⟩⟩
theorem Rm.mono {a b c d : Nat} {s t : Nat → Nat} (h : Rm a b s t) (h0 : c ≤ a) (h1 : b ≤ d) : Rm c d s t :=
  ⟨fun i hi => h.1 i (by omega), fun i i0 i1 => by
    by_cases hi : a ≤ i ∧ i < b
    · obtain ⟨j, j0, j1, e⟩ := h.2 i hi.1 hi.2
      exact ⟨j, by omega, by omega, e⟩
    · exact ⟨i, i0, i1, h.1 i (by omega)⟩⟩
/-- two places exchanged -/
def swx (s : Nat → Nat) (i j : Nat) : Nat → Nat := fun k => if k = i then s j else if k = j then s i else s k
theorem swx_rm {a b i j : Nat} (s : Nat → Nat) (i0 : a ≤ i) (i1 : i < b) (j0 : a ≤ j) (j1 : j < b) : Rm a b s (swx s i j) :=
  ⟨fun k hk => by unfold swx; rw [if_neg (by omega), if_neg (by omega)], fun k k0 k1 => by
    unfold swx
    by_cases h : k = i
    · rw [if_pos h]; exact ⟨j, j0, j1, rfl⟩
    · rw [if_neg h]
      by_cases h2 : k = j
      · rw [if_pos h2]; exact ⟨i, i0, i1, rfl⟩
      · rw [if_neg h2]; exact ⟨k, k0, k1, rfl⟩⟩
theorem swx_comm (s : Nat → Nat) (i j : Nat) : swx s i j = swx s j i := by
  funext k; unfold swx
  by_cases h : k = i
  · by_cases h2 : k = j
    · rw [if_pos h, if_pos h2, ← h, ← h2]
    · rw [if_pos h, if_neg h2, if_pos h]
  · by_cases h2 : k = j
    · rw [if_neg h, if_pos h2, if_pos h2]
    · rw [if_neg h, if_neg h2, if_neg h2, if_neg h]
/-- n places from a on exchanged with n from b on -/
def swR (a b n : Nat) (s : Nat → Nat) : Nat → Nat := fun k => if a ≤ k ∧ k < a + n then s (k - a + b) else if b ≤ k ∧ k < b + n then s (k - b + a) else s k
theorem swR_zero (a b : Nat) (s : Nat → Nat) : swR a b 0 s = s := by
  funext k; unfold swR; rw [if_neg (by omega), if_neg (by omega)]
theorem swR_step {a b n i : Nat} (s : Nat → Nat) (hi : i < n) (h : a + n ≤ b) : swx (swR a b i s) (a + i) (b + i) = swR a b (i + 1) s := by
  funext k
  unfold swx swR
  by_cases h1 : k = a + i
  · subst h1
    rw [if_pos rfl, if_neg (by omega), if_neg (by omega), if_pos (by omega)]
    congr 1; omega
  · rw [if_neg h1]
    by_cases h2 : k = b + i
    · subst h2
      rw [if_pos rfl, if_neg (by omega), if_neg (by omega), if_neg (by omega), if_pos (by omega)]
      congr 1; omega
    · rw [if_neg h2]
      by_cases h3 : a ≤ k ∧ k < a + i
      · rw [if_pos h3, if_pos (by omega)]
      · rw [if_neg h3, if_neg (by omega : ¬ (a ≤ k ∧ k < a + (i + 1)))]
        by_cases h4 : b ≤ k ∧ k < b + i
        · rw [if_pos h4, if_pos (by omega)]
        · rw [if_neg h4, if_neg (by omega)]
/-- [a, m) and [m, b) exchanged -/
def rot (a m b : Nat) (s : Nat → Nat) : Nat → Nat := fun k => if a ≤ k ∧ k < a + (b - m) then s (k + (m - a)) else if a + (b - m) ≤ k ∧ k < b then s (k - (b - m)) else s k
theorem rot_gt0 {a j d : Nat} (s : Nat → Nat) : rot (a + j) (a + j + d) (a + j + d + j) (swR a (a + j + d) j s) = rot a (a + j + d) (a + j + d + j) s := by
  funext k
  unfold rot swR
  rw [show a + j + d + j - (a + j + d) = j by omega, show a + j + d - (a + j) = d by omega, show a + j + d - a = j + d by omega]
  by_cases h1 : a ≤ k ∧ k < a + j
  · rw [if_neg (by omega), if_neg (by omega), if_pos h1, if_pos h1]
    congr 1; omega
  · by_cases h2 : a + j ≤ k ∧ k < a + j + j
    · rw [if_pos h2, if_neg (by omega), if_pos (by omega), if_neg h1, if_pos (by omega)]
      congr 1; omega
    · rw [if_neg h2]
      by_cases h3 : a + j + j ≤ k ∧ k < a + j + d + j
      · rw [if_pos h3, if_neg (by omega), if_neg (by omega), if_neg h1, if_pos (by omega)]
      · rw [if_neg h3, if_neg h1, if_neg (by omega), if_neg h1, if_neg (by omega)]
theorem rot_gt {m i j : Nat} (s : Nat → Nat) (hij : j < i) (hi : i ≤ m) : rot (m - (i - j)) m (m + j) (swR (m - i) m j s) = rot (m - i) m (m + j) s := by
  obtain ⟨d, rfl⟩ : ∃ d, i = j + d := ⟨i - j, by omega⟩
  obtain ⟨a, rfl⟩ : ∃ a, m = a + j + d := ⟨m - (j + d), by omega⟩
  have e1 : a + j + d - (j + d - j) = a + j := by omega
  have e2 : a + j + d - (j + d) = a := by omega
  rw [e1, e2]
  exact rot_gt0 s
theorem rot_lt0 {a i d : Nat} (s : Nat → Nat) : rot a (a + i) (a + i + d) (swR a (a + i + d) i s) = rot a (a + i) (a + i + (i + d)) s := by
  funext k
  unfold rot swR
  rw [show a + i + d - (a + i) = d by omega, show a + i + (i + d) - (a + i) = i + d by omega, show a + i - a = i by omega]
  by_cases h1 : a ≤ k ∧ k < a + d
  · rw [if_pos h1, if_pos (by omega : a ≤ k ∧ k < a + (i + d))]
    rw [if_neg (by omega), if_neg (by omega)]
  · rw [if_neg h1]
    by_cases h2 : a + d ≤ k ∧ k < a + i + d
    · rw [if_pos h2, if_pos (by omega), if_pos (by omega)]
      congr 1; omega
    · rw [if_neg h2]
      by_cases h3 : a + i + d ≤ k ∧ k < a + i + d + i
      · rw [if_neg (by omega), if_pos h3, if_neg (by omega), if_pos (by omega)]
        congr 1; omega
      · rw [if_neg (by omega), if_neg h3, if_neg (by omega), if_neg (by omega)]
theorem rot_lt {m i j : Nat} (s : Nat → Nat) (hij : i < j) (hi : i ≤ m) : rot (m - i) m (m + (j - i)) (swR (m - i) (m + j - i) i s) = rot (m - i) m (m + j) s := by
  obtain ⟨d, rfl⟩ : ∃ d, j = i + d := ⟨j - i, by omega⟩
  obtain ⟨a, rfl⟩ : ∃ a, m = a + i := ⟨m - i, by omega⟩
  have e1 : a + i - i = a := by omega
  have e2 : i + d - i = d := by omega
  have e3 : a + i + (i + d) - i = a + i + d := by omega
  rw [e1, e2, e3]
  exact rot_lt0 s
theorem rot_eq {m i : Nat} (s : Nat → Nat) (hi : i ≤ m) : swR (m - i) m i s = rot (m - i) m (m + i) s := by
  obtain ⟨a, rfl⟩ : ∃ a, m = a + i := ⟨m - i, by omega⟩
  have e1 : a + i - i = a := by omega
  rw [e1]
  funext k
  unfold rot swR
  rw [show a + i + i - (a + i) = i by omega, show a + i - a = i by omega]
  by_cases h1 : a ≤ k ∧ k < a + i
  · rw [if_pos h1, if_pos h1]; congr 1; omega
  · rw [if_neg h1, if_neg h1]
    by_cases h2 : a + i ≤ k ∧ k < a + i + i
    · rw [if_pos h2, if_pos h2]; congr 1; omega
    · rw [if_neg h2, if_neg h2]
theorem rot_rm {a m b : Nat} (s : Nat → Nat) (h0 : a ≤ m) (h1 : m ≤ b) : Rm a b s (rot a m b s) :=
  ⟨fun k hk => by unfold rot; rw [if_neg (by omega), if_neg (by omega)], fun k k0 k1 => by
    unfold rot
    by_cases h : a ≤ k ∧ k < a + (b - m)
    · rw [if_pos h]; exact ⟨_, by omega, by omega, rfl⟩
    · rw [if_neg h, if_pos (by omega)]; exact ⟨_, by omega, by omega, rfl⟩⟩
/-- an increasing map into [0, n) is the identity -/
theorem mono_id {n : Nat} {r : Nat → Nat} (h : ∀ i j, i < j → j < n → r i < r j) (hr : ∀ i, i < n → r i < n) : ∀ i, i < n → r i = i := by
  have lo : ∀ i, i < n → i ≤ r i := by
    intro i
    induction i with
    | zero => intro _; omega
    | succ i ih => intro hi; have := h i (i + 1) (by omega) hi; have := ih (by omega); omega
  have up : ∀ d i, i + d + 1 = n → r i ≤ i := by
    intro d
    induction d with
    | zero => intro i hi; have := hr i (by omega); omega
    | succ d ih => intro i hi; have := h i (i + 1) (by omega) (by omega); have := ih (i + 1) (by omega); omega
  intro i hi
  have := lo i hi
  have := up (n - 1 - i) i (by omega)
  omega
open Classical in
/-- how many of the first n tags stand before a tag -/
noncomputable def rnk (f : Nat → Nat) : Nat → Nat → Nat
  | 0, _ => 0
  | n + 1, x => rnk f n x + if pre f n x then 1 else 0
theorem rnk_mono {f : Nat → Nat} {x y : Nat} (h : pre f x y) : ∀ n, rnk f n x ≤ rnk f n y ∧ (x < n → rnk f n x < rnk f n y)
  | 0 => ⟨Nat.le_refl _, fun h => absurd h (Nat.not_lt_zero _)⟩
  | n + 1 => by
    have ih := rnk_mono h n
    unfold rnk
    by_cases h1 : pre f n x
    · rw [if_pos h1, if_pos (pre_trans h1 h)]
      refine ⟨by omega, fun hx => ?_⟩
      by_cases e : x = n
      · subst e; exact (pre_irr h1).elim
      · have := ih.2 (by omega); omega
    · rw [if_neg h1]
      refine ⟨by have := ih.1; omega, fun hx => ?_⟩
      by_cases e : x = n
      · subst e; rw [if_pos h]; have := ih.1; omega
      · have := ih.2 (by omega); omega
theorem rnk_le (f : Nat → Nat) (x : Nat) : ∀ n, rnk f n x ≤ n
  | 0 => Nat.le_refl _
  | n + 1 => by have := rnk_le f x n; unfold rnk; split <;> omega
theorem rnk_lt {f : Nat → Nat} {x : Nat} : ∀ n, x < n → rnk f n x < n
  | 0, h => absurd h (Nat.not_lt_zero _)
  | n + 1, h => by
    unfold rnk
    by_cases e : x = n
    · subst e
      rw [if_neg pre_irr]
      have := rnk_le f x x; omega
    · have := rnk_lt (f := f) n (by omega : x < n)
      split <;> omega
/-- two increasing arrangements of the first n tags are the same -/
theorem inc_one {f s t : Nat → Nat} {n : Nat} (hs : Inc f s 0 n) (hs2 : ∀ i, i < n → s i < n) (ht : Inc f t 0 n) (ht2 : ∀ i, i < n → t i < n) : ∀ i, i < n → s i = t i := by
  have a1 : ∀ i, i < n → rnk f n (s i) = i := mono_id (n := n) (r := fun i => rnk f n (s i)) (fun i j h hj => (rnk_mono (hs i j (Nat.zero_le _) h hj) n).2 (hs2 i (by omega))) (fun i hi => rnk_lt n (hs2 i hi))
  have a2 : ∀ i, i < n → rnk f n (t i) = i := mono_id (n := n) (r := fun i => rnk f n (t i)) (fun i j h hj => (rnk_mono (ht i j (Nat.zero_le _) h hj) n).2 (ht2 i (by omega))) (fun i hi => rnk_lt n (ht2 i hi))
  intro i hi
  have e1 := a1 i hi
  have e2 := a2 i hi
  by_cases h : s i = t i
  · exact h
  · rcases pre_total (f := f) h with h1 | h1
    · have := (rnk_mono h1 n).2 (hs2 i hi); omega
    · have := (rnk_mono h1 n).2 (ht2 i hi); omega
/-- one row's insertion: places [a, i) are increasing, place j holds what is put in, (j, i] are increasing and behind it -/
def Ins (f s t : Nat → Nat) (a i j : Nat) : Prop :=
  a ≤ j ∧ j ≤ i ∧ t j = s i ∧ (∀ k, a ≤ k → k < j → t k = s k) ∧ (∀ k, j < k → k ≤ i → t k = s (k - 1)) ∧ (∀ k, (k < a ∨ i < k) → t k = s k) ∧ ∀ k, j < k → k ≤ i → pre f (t j) (t k)
theorem Ins.start {f s : Nat → Nat} {a i : Nat} (h : a ≤ i) : Ins f s s a i i :=
  ⟨h, Nat.le_refl _, rfl, fun _ _ _ => rfl, fun k h0 h1 => by omega, fun _ _ => rfl, fun k h0 h1 => by omega⟩
theorem Ins.step {f s t : Nat → Nat} {a i j : Nat} (h : Ins f s t a i j) (hj : a < j) (hp : pre f (t j) (t (j - 1))) : Ins f s (swx t j (j - 1)) a i (j - 1) := by
  obtain ⟨h0, h1, h2, h3, h4, h5, h6⟩ := h
  have e1 : swx t j (j - 1) (j - 1) = t j := by unfold swx; rw [if_neg (by omega), if_pos rfl]
  have e2 : swx t j (j - 1) j = t (j - 1) := by unfold swx; rw [if_pos rfl]
  have e3 : ∀ k, k ≠ j → k ≠ j - 1 → swx t j (j - 1) k = t k := fun k k1 k2 => by unfold swx; rw [if_neg k1, if_neg k2]
  refine ⟨by omega, by omega, by rw [e1, h2], fun k k0 k1 => by rw [e3 k (by omega) (by omega)]; exact h3 k k0 (by omega), fun k k0 k1 => ?_, fun k hk => by rw [e3 k (by omega) (by omega)]; exact h5 k hk, fun k k0 k1 => ?_⟩
  · by_cases e : k = j
    · subst e; rw [e2]; exact h3 _ (by omega) (by omega)
    · rw [e3 k e (by omega)]; exact h4 k (by omega) k1
  · rw [e1]
    by_cases e : k = j
    · subst e; rw [e2]; exact hp
    · rw [e3 k e (by omega)]; exact h6 k (by omega) k1
/-- the insertion's end -/
theorem Ins.done {f s t : Nat → Nat} {a i j : Nat} (h : Ins f s t a i j) (hs : Inc f s a i) (hp : a < j → pre f (t (j - 1)) (t j)) : Inc f t a (i + 1) ∧ Rm a (i + 1) s t := by
  obtain ⟨h0, h1, h2, h3, h4, h5, h6⟩ := h
  constructor
  · intro x y x0 xy y1
    by_cases hx : x < j
    · have hlast : pre f (t (j - 1)) (t j) := hp (by omega)
      have hxj : x = j - 1 ∨ pre f (t x) (t (j - 1)) := by
        by_cases e : x = j - 1
        · exact .inl e
        · right; rw [h3 x x0 hx, h3 (j - 1) (by omega) (by omega)]; exact hs x (j - 1) x0 (by omega) (by omega)
      have hxj2 : pre f (t x) (t j) := by
        rcases hxj with rfl | h
        · exact hlast
        · exact pre_trans h hlast
      by_cases hy : y < j
      · rw [h3 x x0 hx, h3 y (by omega) hy]; exact hs x y x0 xy (by omega)
      · by_cases e : y = j
        · subst e; exact hxj2
        · exact pre_trans hxj2 (h6 y (by omega) (by omega))
    · by_cases e : x = j
      · subst e; exact h6 y xy (by omega)
      · rw [h4 x (by omega) (by omega), h4 y (by omega) (by omega)]; exact hs (x - 1) (y - 1) (by omega) (by omega) (by omega)
  · refine ⟨fun k hk => h5 k (by omega), fun k k0 k1 => ?_⟩
    by_cases e : k = j
    · subst e; exact ⟨i, by omega, by omega, h2⟩
    · by_cases hk : k < j
      · exact ⟨k, k0, k1, h3 k k0 hk⟩
      · exact ⟨k - 1, by omega, by omega, h4 k (by omega) (by omega)⟩
theorem Inc.one (f s : Nat → Nat) (a : Nat) : Inc f s a (a + 1) := fun i j h0 h1 h2 => by omega
theorem Inc.sub {f s : Nat → Nat} {a b c d : Nat} (h : Inc f s a b) (h0 : a ≤ c) (h1 : d ≤ b) : Inc f s c d := fun i j i0 ij j1 => h i j (by omega) ij (by omega)
theorem Inc.congr {f s t : Nat → Nat} {a b : Nat} (h : Inc f s a b) (e : ∀ i, a ≤ i → i < b → t i = s i) : Inc f t a b := fun i j i0 ij j1 => by rw [e i i0 (by omega), e j (by omega) j1]; exact h i j i0 ij j1
theorem LR.pre_of {f s : Nat → Nat} {a m b x y : Nat} (h : LR s a m b) (x0 : a ≤ x) (x1 : x < m) (y0 : m ≤ y) (y1 : y < b) (g : ¬ cmpI (f (s y)) (f (s x)) < 0) : pre f (s x) (s y) := pre_not (h x y x0 x1 y0 y1) g
theorem LR.pre_at {f s : Nat → Nat} {a m b x y : Nat} (h : LR s a m b) (x0 : a ≤ x) (x1 : x < m) (y0 : m ≤ y) (y1 : y < b) (g : cmpI (f (s y)) (f (s x)) < 0) : pre f (s y) (s x) := (pre_cmp (h x y x0 x1 y0 y1)).1 g
/-- two increasing pieces, all of the first before all of the second -/
theorem Inc.join {f s : Nat → Nat} {a m b : Nat} (h1 : Inc f s a m) (h2 : Inc f s m b) (h : ∀ i j, a ≤ i → i < m → m ≤ j → j < b → pre f (s i) (s j)) : Inc f s a b := fun i j i0 ij j1 => by
  by_cases hi : i < m
  · by_cases hj : j < m
    · exact h1 i j i0 ij hj
    · exact h i j i0 hi (by omega) j1
  · exact h2 i j (by omega) ij j1
/-- pieces that are each only rearranged keep that all of the first stand before all of the second -/
theorem cross_rm {f s t : Nat → Nat} {a m b : Nat} (h1 : Rm a m s t) (h : ∀ i j, a ≤ i → i < m → m ≤ j → j < b → pre f (s i) (s j)) : ∀ i j, a ≤ i → i < m → m ≤ j → j < b → pre f (t i) (t j) := fun i j i0 i1 j0 j1 => by
  obtain ⟨k, k0, k1, e⟩ := h1.2 i i0 i1
  rw [e, h1.1 j (by omega)]; exact h k j k0 k1 j0 j1
theorem cross_rm2 {f s t : Nat → Nat} {a m b : Nat} (h1 : Rm m b s t) (h : ∀ i j, a ≤ i → i < m → m ≤ j → j < b → pre f (s i) (s j)) : ∀ i j, a ≤ i → i < m → m ≤ j → j < b → pre f (t i) (t j) := fun i j i0 i1 j0 j1 => by
  obtain ⟨k, k0, k1, e⟩ := h1.2 j j0 j1
  rw [e, h1.1 i (by omega)]; exact h i k i0 i1 k0 k1
theorem rot_head {a k : Nat} (s : Nat → Nat) (h : a ≤ k) : swx (rot a (a + 1) (k + 1) s) k (k + 1) = rot a (a + 1) (k + 2) s := by
  funext i
  unfold swx rot
  by_cases h1 : i = k
  · subst h1
    rw [if_pos rfl, if_neg (by omega), if_neg (by omega), if_pos (by omega)]
    congr 1; omega
  · rw [if_neg h1]
    by_cases h2 : i = k + 1
    · subst h2
      rw [if_pos rfl, if_neg (by omega), if_pos (by omega), if_neg (by omega), if_pos (by omega)]
      congr 1; omega
    · rw [if_neg h2]
      by_cases h3 : a ≤ i ∧ i < k
      · rw [if_pos (by omega), if_pos (by omega)]
      · rw [if_neg (by omega), if_neg (by omega), if_neg (by omega), if_neg (by omega)]
theorem rot_tail {k m : Nat} (s : Nat → Nat) (h0 : 0 < k) (h : k ≤ m) : swx (rot k m (m + 1) s) k (k - 1) = rot (k - 1) m (m + 1) s := by
  funext i
  unfold swx rot
  by_cases h1 : i = k
  · subst h1
    rw [if_pos rfl, if_neg (by omega), if_neg (by omega), if_neg (by omega), if_pos (by omega)]
    congr 1; omega
  · rw [if_neg h1]
    by_cases h2 : i = k - 1
    · subst h2
      rw [if_pos rfl, if_pos (by omega), if_pos (by omega)]
      congr 1; omega
    · rw [if_neg h2]
      by_cases h3 : k < i ∧ i < m + 1
      · rw [if_neg (by omega), if_pos (by omega), if_neg (by omega), if_pos (by omega)]
      · rw [if_neg (by omega), if_neg (by omega), if_neg (by omega), if_neg (by omega)]
theorem rot_none (a m b : Nat) (s : Nat → Nat) (h : a = m ∨ m = b) (h0 : a ≤ m) (h1 : m ≤ b) : rot a m b s = s := by
  funext i
  unfold rot
  rcases h with rfl | rfl
  · by_cases h2 : a ≤ i ∧ i < a + (b - a)
    · rw [if_pos h2]; congr 1; omega
    · rw [if_neg h2, if_neg (by omega)]
  · rw [if_neg (by omega)]
    by_cases h2 : a + (m - m) ≤ i ∧ i < m
    · rw [if_pos h2]; congr 1; omega
    · rw [if_neg h2]
/-- a merge's parting -/
structure Part (f t : Nat → Nat) (a st md en b : Nat) : Prop where make ::
  i1 : Inc f t a st
  i2 : Inc f t st md
  i3 : Inc f t md en
  i4 : Inc f t en b
  l1 : LR t a st md
  l2 : LR t md en b
  cr : ∀ i j, a ≤ i → i < md → md ≤ j → j < b → pre f (t i) (t j)
theorem part_of {f s : Nat → Nat} {a st m md en b : Nat} (h1 : Inc f s a m) (h2 : Inc f s m b) (hl : LR s a m b) (g0 : a ≤ st) (g1 : st ≤ m) (g2 : m ≤ en) (g3 : en ≤ b) (gm : st + en = md + m)
    (hB : st < m → m < en → pre f (s (en - 1)) (s st)) (hA : a < st → en < b → pre f (s (st - 1)) (s en)) : Part f (rot st m en s) a st md en b := by
  have e1 : ∀ k, k < st → rot st m en s k = s k := fun k hk => by unfold rot; rw [if_neg (by omega), if_neg (by omega)]
  have e2 : ∀ k, st ≤ k → k < md → rot st m en s k = s (k + (m - st)) := fun k h0 h1 => by unfold rot; rw [if_pos (by omega)]
  have e3 : ∀ k, md ≤ k → k < en → rot st m en s k = s (k - (en - m)) := fun k h0 h1 => by unfold rot; rw [if_neg (by omega), if_pos (by omega)]
  have e4 : ∀ k, en ≤ k → rot st m en s k = s k := fun k hk => by unfold rot; rw [if_neg (by omega), if_neg (by omega)]
  -- increasing or the same
  have le1 : ∀ i j, a ≤ i → i ≤ j → j < m → i = j ∨ pre f (s i) (s j) := fun i j i0 ij j1 => by
    by_cases e : i = j
    · exact .inl e
    · exact .inr (h1 i j i0 (by omega) j1)
  have le2 : ∀ i j, m ≤ i → i ≤ j → j < b → i = j ∨ pre f (s i) (s j) := fun i j i0 ij j1 => by
    by_cases e : i = j
    · exact .inl e
    · exact .inr (h2 i j i0 (by omega) j1)
  have ba : ∀ x y, m ≤ x → x < en → st ≤ y → y < m → pre f (s x) (s y) := fun x y x0 x1 y0 y1 => by
    have hb := hB (by omega) (by omega)
    have hb2 : pre f (s x) (s st) := by
      rcases le2 x (en - 1) x0 (by omega) (by omega) with rfl | h
      · exact hb
      · exact pre_trans h hb
    rcases le1 st y g0 y0 y1 with rfl | h
    · exact hb2
    · exact pre_trans hb2 h
  have ab : ∀ x y, a ≤ x → x < st → en ≤ y → y < b → pre f (s x) (s y) := fun x y x0 x1 y0 y1 => by
    have hb := hA (by omega) (by omega)
    have hb2 : pre f (s x) (s en) := by
      rcases le1 x (st - 1) x0 (by omega) (by omega) with rfl | h
      · exact hb
      · exact pre_trans h hb
    rcases le2 en y g2 y0 y1 with rfl | h
    · exact hb2
    · exact pre_trans hb2 h
  constructor
  · intro i j i0 ij j1; rw [e1 i (by omega), e1 j j1]; exact h1 i j i0 ij (by omega)
  · intro i j i0 ij j1; rw [e2 i i0 (by omega), e2 j (by omega) j1]; exact h2 _ _ (by omega) (by omega) (by omega)
  · intro i j i0 ij j1; rw [e3 i i0 (by omega), e3 j (by omega) j1]; exact h1 _ _ (by omega) (by omega) (by omega)
  · intro i j i0 ij j1; rw [e4 i i0, e4 j (by omega)]; exact h2 i j (by omega) ij j1
  · intro i j i0 i1 j0 j1; rw [e1 i i1, e2 j j0 j1]; exact hl _ _ i0 (by omega) (by omega) (by omega)
  · intro i j i0 i1 j0 j1; rw [e3 i i0 i1, e4 j j0]; exact hl _ _ (by omega) (by omega) (by omega) j1
  · intro i j i0 i1 j0 j1
    by_cases hi : i < st
    · rw [e1 i hi]
      by_cases hj : j < en
      · rw [e3 j j0 hj]; exact h1 _ _ i0 (by omega) (by omega)
      · rw [e4 j (by omega)]; exact ab i j i0 hi (by omega) j1
    · rw [e2 i (by omega) i1]
      by_cases hj : j < en
      · rw [e3 j j0 hj]; exact ba _ _ (by omega) (by omega) (by omega) (by omega)
      · rw [e4 j (by omega)]; exact h2 _ _ (by omega) (by omega) j1
/-- a merge's end -/
theorem Part.done {f t u v : Nat → Nat} {a st md en b : Nat} (h : Part f t a st md en b) (ha : a ≤ md) (hb : md ≤ b) (r1 : Rm a md t u) (i1 : Inc f u a md) (r2 : Rm md b u v) (i2 : Inc f v md b) : Inc f v a b ∧ Rm a b t v := by
  refine ⟨Inc.join (i1.congr fun i i0 i1 => r2.1 i (by omega)) i2 (cross_rm2 r2 (cross_rm r1 h.cr)), (r1.mono (Nat.le_refl _) hb).trans (r2.mono ha (Nat.le_refl _))⟩
/-- what a piece of the merge is where nothing is to be merged -/
theorem Part.left {f t : Nat → Nat} {a st md en b : Nat} (h : Part f t a st md en b) (g : ¬ (a < st ∧ st < md)) (g0 : a ≤ st) (g1 : st ≤ md) : Inc f t a md := by
  by_cases e : a < st
  · have e2 : st = md := by omega
    rw [← e2]; exact h.i1
  · have e2 : a = st := by omega
    rw [e2]; exact h.i2
theorem Part.right {f t : Nat → Nat} {a st md en b : Nat} (h : Part f t a st md en b) (g : ¬ (md < en ∧ en < b)) (g0 : md ≤ en) (g1 : en ≤ b) : Inc f t md b := by
  by_cases e : md < en
  · have e2 : en = b := by omega
    rw [← e2]; exact h.i3
  · have e2 : md = en := by omega
    rw [e2]; exact h.i4
end Flt
