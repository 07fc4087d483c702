/- When a graph may be, by its lists; what is up of one may be, and what is up of that is the same: plain Lean. Conditions: as each theorem's hypotheses say. -/
import Derived.Test.YtgmljlgoaifneaaGlw
namespace Go.Proofs.Ytgmljlgoaifneaa
open Flt
set_option linter.unusedVariables false
theorem ndA_get {ns : List Nd} {i : Nat} (h : i < ns.length) : ndA ns i = ns[i] := by
  have := ndA_some h; rw [List.getElem?_eq_getElem h] at this; injection this with e; exact e.symm
theorem lkA_get {ls : List Lk} {i : Nat} (h : i < ls.length) : lkA ls i = ls[i] := by
  have := lkA_some h; rw [List.getElem?_eq_getElem h] at this; injection this with e; exact e.symm
theorem lkLt_iff {x y : Lk} : lkLt x y = true ↔ x.a < y.a ∨ (x.a = y.a ∧ x.b < y.b) := by unfold lkLt; simp
theorem lkLt_trans {x y z : Lk} (h : lkLt x y = true) (g : lkLt y z = true) : lkLt x z = true := by rw [lkLt_iff] at *; omega
/-- a graph that may be, by its lists -/
structure Good (ns : List Nd) (ls : List Lk) : Prop where
  n : ns.length ≤ 256
  l : ls.length ≤ 4096
  ids : ∀ x ∈ ns, idOk x.id = true
  rise : ns.Pairwise fun x y => x.id < y.id
  ends : ∀ x ∈ ls, hasN ns x.a = true ∧ hasN ns x.b = true ∧ x.a < x.b ∧ withinI x.w 4697254411347427328 = 0
  lrise : ls.Pairwise fun x y => lkLt x y = true
theorem Good.Rise {ns : List Nd} {ls : List Lk} (h : Good ns ls) : Rise ns := fun i j hij hj => by
  have := List.pairwise_iff_getElem.1 h.rise i j (by omega) hj hij
  rw [ndA_get (by omega), ndA_get hj]; exact this
theorem nodTo_all {ns : List Nd} : ∀ {n : Nat}, (∀ k, k < n → nodBad ns k = false) → nodTo ns n = false
  | 0, _ => rfl
  | n + 1, h => by unfold nodTo; rw [nodTo_all (fun k hk => h k (by omega)), h n (by omega)]; rfl
theorem lnkTo_all {ns : List Nd} {ls : List Lk} : ∀ {n : Nat}, (∀ k, k < n → lnkBad ns ls k = false ∧ withinI (lkA ls k).w 4697254411347427328 = 0) → lnkTo ns ls n = 0
  | 0, _ => rfl
  | n + 1, h => by rw [lnkTo_weight (lnkTo_all fun k hk => h k (by omega)) (h n (by omega)).1]; exact (h n (by omega)).2
theorem pair_step {ls : List Lk} (h : ∀ k, 0 < k → (hk : k < ls.length) → lkLt (lkA ls (k - 1)) (lkA ls k) = true) : ∀ (j i : Nat), i < j → j < ls.length → lkLt (lkA ls i) (lkA ls j) = true
  | 0, i, hij, _ => by omega
  | j + 1, i, hij, hj => by
    have h1 := h (j + 1) (by omega) hj
    rw [Nat.add_sub_cancel] at h1
    by_cases e : i = j
    · subst e; exact h1
    · exact lkLt_trans (pair_step h j i (by omega) (by omega)) h1
theorem good_of {ns : List Nd} {ls : List Lk} (h : chkG ns ls = 0) : Good ns ls := by
  have f := fine_of h
  refine ⟨f.n, f.l, fun x hx => ?_, List.pairwise_iff_getElem.2 fun i j hi hj hij => ?_, fun x hx => ?_, List.pairwise_iff_getElem.2 fun i j hi hj hij => ?_⟩
  · obtain ⟨i, hi, rfl⟩ := List.getElem_of_mem hx
    have := nodTo_ok f.bad i hi
    unfold nodBad at this
    rw [ndA_get hi] at this
    simp at this
    exact this.1
  · have := f.rise i j hij hj
    rwa [ndA_get hi, ndA_get hj] at this
  · obtain ⟨i, hi, rfl⟩ := List.getElem_of_mem hx
    have h1 := f.lnk i hi
    have h2 := h1.1
    unfold lnkBad at h2
    rw [lkA_get hi] at h1 h2
    simp at h2
    exact ⟨h2.1.1.1, h2.1.1.2, h2.1.2, h1.2⟩
  · have := pair_step (ls := ls) (fun k h0 hk => by
      have h2 := (f.lnk k hk).1
      unfold lnkBad at h2
      simp at h2
      exact h2.2 h0) j i hij hj
    rwa [lkA_get hi, lkA_get hj] at this
theorem Good.chk {ns : List Nd} {ls : List Lk} (h : Good ns ls) : chkG ns ls = 0 := by
  have hb : ∀ k, k < ns.length → nodBad ns k = false := fun k hk => by
    unfold nodBad
    rw [ndA_get hk, h.ids _ (List.getElem_mem hk)]
    by_cases h0 : 0 < k
    · have := List.pairwise_iff_getElem.1 h.rise (k - 1) k (by omega) hk (by omega)
      rw [ndA_get (i := k - 1) (by omega)]
      simp; intro; omega
    · simp [h0]
  rw [chkG_link h.n h.l (nodTo_all hb)]
  refine lnkTo_all fun k hk => ?_
  obtain ⟨e1, e2, e3, e4⟩ := h.ends _ (List.getElem_mem hk)
  refine ⟨?_, by rw [lkA_get hk]; exact e4⟩
  unfold lnkBad
  rw [lkA_get hk, e1, e2]
  by_cases h0 : 0 < k
  · have := List.pairwise_iff_getElem.1 h.lrise (k - 1) k (by omega) hk (by omega)
    rw [lkA_get (i := k - 1) (by omega), this]
    simp; omega
  · simp [h0]; omega
theorem hasN_mem {ns : List Nd} {x : Int} : hasN ns x = true ↔ ∃ y ∈ ns, y.id = x := by unfold hasN; rw [List.any_eq_true]; simp
/-- the router of a number -/
theorem upAt_of {ns : List Nd} (hr : Rise ns) {y : Nd} (hy : y ∈ ns) : upAt ns y.id = y.up := by
  obtain ⟨i, hi, rfl⟩ := List.getElem_of_mem hy
  unfold upAt
  rw [cnt_uni hr hi (by rw [ndA_get hi]), ndA_get hi]
theorem live_good {ns : List Nd} {ls : List Lk} (h : Good ns ls) : Good (ns.filter (·.up)) (ls.filter (liveL ns)) := by
  refine ⟨Nat.le_trans (List.length_filter_le _ _) h.n, Nat.le_trans (List.length_filter_le _ _) h.l, fun x hx => h.ids x (List.mem_filter.1 hx).1, h.rise.filter _, fun x hx => ?_, h.lrise.filter _⟩
  obtain ⟨hm, hl⟩ := List.mem_filter.1 hx
  obtain ⟨e1, e2, e3, e4⟩ := h.ends x hm
  unfold liveL at hl
  simp at hl
  obtain ⟨y, hy, ey⟩ := hasN_mem.1 e1
  obtain ⟨z, hz, ez⟩ := hasN_mem.1 e2
  refine ⟨hasN_mem.2 ⟨y, List.mem_filter.2 ⟨hy, ?_⟩, ey⟩, hasN_mem.2 ⟨z, List.mem_filter.2 ⟨hz, ?_⟩, ez⟩, e3, e4⟩
  · have := upAt_of h.Rise hy; rw [ey, hl.1.2] at this; exact this.symm
  · have := upAt_of h.Rise hz; rw [ez, hl.2] at this; exact this.symm
theorem live_live {ns : List Nd} {ls : List Lk} (h : chkG ns ls = 0) : chkG (liveN ns ls) (liveK ns ls) = 0 ∧ liveN (liveN ns ls) (liveK ns ls) = liveN ns ls ∧ liveK (liveN ns ls) (liveK ns ls) = liveK ns ls := by
  have g := good_of h
  have g2 := live_good g
  have e1 : liveN ns ls = ns.filter (·.up) := if_pos h
  have e2 : liveK ns ls = ls.filter (liveL ns) := if_pos h
  rw [e1, e2]
  have hc := g2.chk
  refine ⟨hc, ?_, ?_⟩
  · unfold liveN; rw [if_pos hc, List.filter_filter]; simp
  · unfold liveK
    rw [if_pos hc, List.filter_eq_self]
    intro x hx
    obtain ⟨a1, a2, _, _⟩ := g2.ends x hx
    obtain ⟨y, hy, ey⟩ := hasN_mem.1 a1
    obtain ⟨z, hz, ez⟩ := hasN_mem.1 a2
    have hl := (List.mem_filter.1 hx).2
    unfold liveL at hl ⊢
    simp at hl
    have u1 := upAt_of g2.Rise hy
    have u2 := upAt_of g2.Rise hz
    rw [ey] at u1
    rw [ez] at u2
    have v1 := (List.mem_filter.1 hy).2
    have v2 := (List.mem_filter.1 hz).2
    rw [u1, u2, hl.1.1]
    rw [show y.up = true from v1, show z.up = true from v2]; rfl
end Go.Proofs.Ytgmljlgoaifneaa
