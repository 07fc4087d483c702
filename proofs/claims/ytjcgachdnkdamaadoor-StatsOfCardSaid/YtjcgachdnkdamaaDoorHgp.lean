/- Histograms: the place of a float among bounds; how often each place is met; what the two tests say alike. Rows of ints that may be written. Plain Lean: no program. Conditions: as each theorem's hypotheses say. -/
import Derived.Test.YtjcgachdnkdamaaDoorSxp
import Derived.Test.YtjcgachdnkdamaaDoorRow
namespace Flt
open Ieee Go Go.Mem Go.RowKit
def gef (x b : Nat) : Bool := fgt x b || feq x b
def lef (x b : Nat) : Bool := flt x b || feq x b
theorem gef_cmp {x b : Nat} (hx : isnan x = false) (hb : isnan b = false) : gef x b = decide (0 ≤ cmpI x b) := by
  unfold gef cmpI fgt flt feq
  rw [hx, hb]
  by_cases h1 : key x < key b
  · have h2 : ¬ key b < key x := by omega
    have h3 : ¬ key x = key b := by omega
    simp [h1, h2, h3]
  · by_cases h2 : key b < key x
    · simp [h1, h2]
    · have h3 : key x = key b := by omega
      simp [h3]
theorem lef_cmp {x b : Nat} (hx : isnan x = false) (hb : isnan b = false) : lef x b = decide (cmpI x b ≤ 0) := by
  unfold lef cmpI fgt flt feq
  rw [hx, hb]
  by_cases h1 : key x < key b
  · simp [h1]
  · by_cases h2 : key b < key x
    · have h3 : ¬ key x = key b := by omega
      simp [h1, h2, h3]
    · have h3 : key x = key b := by omega
      simp [h3]
def posG (g : Nat → Bool) : Nat → Nat → Nat
  | 0, k => k
  | n + 1, k => if g k then posG g n (k + 1) else k
theorem posG_le (g : Nat → Bool) : ∀ n k, k ≤ posG g n k ∧ posG g n k ≤ k + n
  | 0, k => ⟨Nat.le_refl _, Nat.le_refl _⟩
  | n + 1, k => by
    unfold posG
    have := posG_le g n (k + 1)
    split <;> omega
theorem posG_go {g : Nat → Bool} {n k : Nat} (hk : k < n) (h : g k = true) : posG g (n - k) k = posG g (n - (k + 1)) (k + 1) := by
  obtain ⟨t, ht⟩ : ∃ t, n - k = t + 1 := ⟨n - k - 1, by omega⟩
  rw [ht, show n - (k + 1) = t by omega]
  rw [posG, if_pos h]
theorem posG_stop {g : Nat → Bool} {n k : Nat} (hk : k < n) (h : g k = false) : posG g (n - k) k = k := by
  obtain ⟨t, ht⟩ : ∃ t, n - k = t + 1 := ⟨n - k - 1, by omega⟩
  rw [ht, posG, if_neg (by rw [h]; decide)]
def posF (x : Nat) (l : List Nat) (n : Nat) : Nat := posG (fun k => gef x (fat l k)) n 0
theorem posF_le (x : Nat) (l : List Nat) (n : Nat) : posF x l n ≤ n := by have := posG_le (fun k => gef x (fat l k)) n 0; unfold posF; omega
def histF (xs bs : List Nat) (n : Nat) : Nat → Nat → Int
  | 0 => fun _ => 0
  | t + 1 => upd (histF xs bs n t) (posF (fat xs t) bs n) (histF xs bs n t (posF (fat xs t) bs n) + 1)
theorem sumN_zero (k : Nat) : sumN (fun _ => 0) k = 0 := by
  induction k with
  | zero => rfl
  | succ k ih => show sumN _ k + 0 = 0; rw [ih]; rfl
theorem histF_sum (xs bs : List Nat) (n : Nat) : ∀ t, sumN (histF xs bs n t) (n + 1) = t
  | 0 => sumN_zero _
  | t + 1 => by
    show sumN (upd _ _ _) _ = _
    rw [sumN_upd _ _ (by have := posF_le (fat xs t) bs n; omega), histF_sum xs bs n t]
    omega
theorem histF_bd (xs bs : List Nat) (n : Nat) : ∀ t k, 0 ≤ histF xs bs n t k ∧ histF xs bs n t k ≤ t
  | 0, k => ⟨Int.le_refl _, Int.le_refl _⟩
  | t + 1, k => by
    have h1 := histF_bd xs bs n t k
    have h2 := histF_bd xs bs n t (posF (fat xs t) bs n)
    show 0 ≤ upd _ _ _ k ∧ upd _ _ _ k ≤ _
    unfold upd
    split <;> omega
theorem sumN_mono {f : Nat → Int} (h : ∀ k, 0 ≤ f k) : ∀ n i, i ≤ n → 0 ≤ sumN f i ∧ sumN f i ≤ sumN f n
  | 0, i, hi => by obtain rfl : i = 0 := by omega
                   exact ⟨Int.le_refl _, Int.le_refl _⟩
  | n + 1, i, hi => by
    have e : sumN f (n + 1) = sumN f n + f n := rfl
    have h0 := h n
    by_cases hin : i = n + 1
    · subst hin
      have := sumN_mono h n n (Nat.le_refl _)
      omega
    · have := sumN_mono h n i (by omega)
      omega
theorem hist_part (xs bs : List Nat) (n t i : Nat) (hi : i ≤ n + 1) : 0 ≤ sumN (histF xs bs n t) i ∧ sumN (histF xs bs n t) i ≤ t := by
  have := sumN_mono (fun k => (histF_bd xs bs n t k).1) (n + 1) i hi
  rw [histF_sum] at this
  exact this
def badAt (bs : List Nat) (i : Nat) : Bool := isnan (fat bs i) || (decide (0 < i) && lef (fat bs i) (fat bs (i - 1)))
def badTo (bs : List Nat) (n : Nat) : Bool := (List.range n).any (badAt bs)
theorem badTo_yes {bs : List Nat} {n k : Nat} (hk : k < n) (h : badAt bs k = true) : badTo bs n = true := List.any_eq_true.2 ⟨k, List.mem_range.2 hk, h⟩
theorem badTo_no {bs : List Nat} {n : Nat} (h : ∀ i, i < n → badAt bs i = false) : badTo bs n = false := by
  unfold badTo
  rw [List.any_eq_false]
  intro i hi
  rw [h i (List.mem_range.1 hi)]; decide
theorem badTo_at {bs : List Nat} {n i : Nat} (h : badTo bs n = false) (hi : i < n) : isnan (fat bs i) = false := by
  unfold badTo at h
  have h2 := List.any_eq_false.1 h i (List.mem_range.2 hi)
  unfold badAt at h2
  cases hn : isnan (fat bs i)
  · rfl
  · rw [hn] at h2; simp at h2
def nanIn (xs : List Nat) (m : Nat) : Bool := ((List.range m).map (fat xs)).any isnan
theorem nanIn_yes {xs : List Nat} {m k : Nat} (hk : k < m) (h : isnan (fat xs k) = true) : nanIn xs m = true := List.any_eq_true.2 ⟨_, List.mem_map.2 ⟨k, List.mem_range.2 hk, rfl⟩, h⟩
theorem nanIn_no {xs : List Nat} {m : Nat} (h : ∀ i, i < m → isnan (fat xs i) = false) : nanIn xs m = false := by
  unfold nanIn
  rw [List.any_eq_false]
  intro i hi
  obtain ⟨j, hj, rfl⟩ := List.mem_map.1 hi
  rw [h j (List.mem_range.1 hj)]; decide
theorem nanIn_at {xs : List Nat} {m i : Nat} (h : nanIn xs m = false) (hi : i < m) : isnan (fat xs i) = false := by
  have h2 := List.any_eq_false.1 h (fat xs i) (List.mem_map.2 ⟨i, List.mem_range.2 hi, rfl⟩)
  cases hn : isnan (fat xs i)
  · rfl
  · rw [hn] at h2; simp at h2
/-- a row of ints that may be written -/
def NRow (w : World) (B : Nat) (A : Option Addr) (n : Nat) (f : Nat → Int) : Prop :=
  0 < n → ∃ b off, A = some ⟨b, off, none⟩ ∧ B ≤ b ∧ b < w.heap.size ∧ ∀ i, i < n → w.cell? ⟨b, off + i, none⟩ = some (.int .i64 (f i)) ∧ w.frozen? ⟨b, off + i, none⟩ = false
theorem NRow.below {w w' : World} {B C n : Nat} {A : Option Addr} {f : Nat → Int} (h : NRow w B A n f) (hb : Below C w w') (hC : w.heap.size ≤ C) : NRow w' B A n f := fun hn => by
  obtain ⟨b, off, e, hB, hlt, hc⟩ := h hn
  have h2 := Go.Mem.bcell (hb.mono hC)
  exact ⟨b, off, e, hB, Nat.lt_of_lt_of_le hlt hb.size, fun i hi => ⟨by rw [h2.1 _ _ hlt]; exact (hc i hi).1, by rw [h2.2 _ _ hlt]; exact (hc i hi).2⟩⟩
theorem NRow.drewN {w : World} {B n : Nat} {A : Option Addr} {f : Nat → Int} (h : NRow w B A n f) (q : Nat) : NRow (w.drewN q) B A n f := h
theorem NRow.put {w : World} {B n b off i : Nat} {f : Nat → Int} (h : NRow w B (some ⟨b, off, none⟩) n f) (hi : i < n) (v : Int) : NRow (w.setCell ⟨b, off + i, none⟩ (.int .i64 v)) B (some ⟨b, off, none⟩) n (upd f i v) := fun hn => by
  obtain ⟨b', off', e, hB, hb, hc⟩ := h hn
  simp only [Option.some.injEq, Addr.mk.injEq] at e
  obtain ⟨rfl, rfl, _⟩ := e
  refine ⟨_, _, rfl, hB, by simpa [World.setCell] using hb, fun t ht => ?_⟩
  have c0 := (hc t ht).1
  have f0 := (hc t ht).2
  constructor
  · by_cases ht2 : t = i
    · subst ht2
      rw [World.cell?_setCell_same _ _ _ c0]
      unfold upd; rw [if_pos rfl]
    · rw [World.cell?_setCell_other _ _ _ _ (by simp <;> omega)]
      refine Eq.trans c0 ?_
      unfold upd; rw [if_neg ht2]
  · simpa [go_sem] using f0
theorem NRow.made {w : World} {B n b cap : Nat} {e : TypeId} {k : Nat} (h : w.ownsRow B e 1 (.slice (some ⟨b, 0, none⟩) n cap) n (List.replicate k (.int .i64 0))) (hk : k = n) : NRow w B (some ⟨b, 0, none⟩) n (fun _ => 0) := fun hn => by
  subst hk
  have hr := Go.Mem.Row.of_own h
  obtain ⟨b1, off, e1, hlt, hc⟩ := hr.2 hn
  rcases h.2 with ⟨_, h0⟩ | ⟨b', cap', cur, hv, hB, hh, _⟩
  · omega
  · simp only [Value.slice.injEq, Option.some.injEq, Addr.mk.injEq] at hv e1
    obtain ⟨⟨rfl, _, _⟩, _⟩ := hv
    obtain ⟨rfl, rfl, _⟩ := e1
    refine ⟨_, _, rfl, hB, hlt, fun i hi => ⟨hc i _ (by rw [List.getElem?_replicate, if_pos hi]), ?_⟩⟩
    simp [World.frozen?, hh]
end Flt
