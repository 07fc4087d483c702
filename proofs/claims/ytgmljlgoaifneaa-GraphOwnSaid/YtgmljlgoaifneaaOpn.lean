/- An argument that is a slice of floats, opened: what the row's reading of it tells of memory. Plain Lean over any program. -/
import Derived.Test.YtgmljlgoaifneaaRow
import Derived.Deep.Slices
import Derived.SizedLaws
import Derived.ProofKit
namespace Go.Mem
open Go.RowKit Go.Deep Go.ChangeShapes Go.WideShapes
section
variable {H : Type} {enc : TypeId × Value → H} {P : Program} {w : World}

theorem trod_float1 {e : TypeId} {n : Nat} {v : Value} {x : DataW H × List MemPlace} {sp : Nat → Bool} (he : P.underlying e = some (.float .f64)) (h : DataW.trod enc P w 0 sp true n e [v] = some x) : ∃ b, v = .float .f64 b ∧ b < 18446744073709551616 := by
  cases n with
  | zero => simp [DataW.trod] at h
  | succ n =>
    simp only [DataW.trod, he] at h
    cases v <;> simp at h
    rename_i k b
    exact ⟨b, by rw [h.1.1], by simpa [Lit.wf, h.1.1] using h.1.2⟩

/-- A SLICE OF FLOATS -/
theorem open_floats {t e : TypeId} {A : Option Addr} {len cap : Nat} {d : DataW H} {ps : List MemPlace} (ht : P.underlying t = some (.slice e)) (he : P.underlying e = some (.float .f64)) (hc : P.cellsOf e = 1)
    (h : DataW.Trod enc P w 0 (fun _ => true) true t (.slice A len cap) d ps) :
    ∃ l, FRow w w.heap.size A len l ∧ (∀ x ∈ l, x < 18446744073709551616) ∧ len ≤ cap ∧ ((d = .nil ∧ len = 0 ∧ cap = 0) ∨ ∃ el sp, d = .slice el sp ∧ el.length + sp.length = cap) := by
  obtain ⟨fuel, hf⟩ := h
  rcases open_slice1 ht hc hf with ⟨hcs, hx⟩ | ⟨a, len', cap', m, n, V, D, Pl, hcs, _, hl, hm, hmm, hx, hV⟩
  · simp [Value.cells] at hcs
    obtain ⟨rfl, rfl, rfl⟩ := hcs
    exact ⟨[], ⟨rfl, fun h => absurd h (by omega)⟩, by simp, Nat.le_refl _, .inl ⟨by injection hx, rfl, rfl⟩⟩
  · simp [Value.cells] at hcs
    obtain ⟨rfl, rfl, rfl⟩ := hcs
    simp only [if_true] at hmm
    subst hmm
    have hb : ∀ i, i < m → ∃ b, V i = .float .f64 b ∧ b < 18446744073709551616 := fun i hi => trod_float1 he (hV i hi).2
    obtain ⟨f, hf2⟩ : ∃ f : Nat → Nat, ∀ i, i < m → V i = .float .f64 (f i) ∧ f i < 18446744073709551616 := ⟨fun i => if h : i < m then (hb i h).choose else 0, fun i hi => by
      simp only [dif_pos hi]; exact (hb i hi).choose_spec⟩
    refine ⟨(List.range len).map f, ⟨by simp, fun hn => ?_⟩, ?_, hl, .inr ⟨_, _, by injection hx, by simp; omega⟩⟩
    · obtain ⟨b, off, spot⟩ := a
      have h0 := (hV 0 (by omega)).1
      have hspot : spot = none := by
        have := World.cell?_spot h0
        simpa [Addr.add] using this
      subst hspot
      refine ⟨b, off, rfl, ?_, ?_⟩
      · have := World.block_lt_of_cell? w _ h0
        simpa [Addr.add] using this
      · intro i hi
        have h1 := (hV i (by omega)).1
        rw [addAt, (hf2 i (by omega)).1] at h1
        have e : fat ((List.range len).map f) i = f i := by
          unfold fat
          rw [List.getD_eq_getElem?_getD, List.getElem?_map, List.getElem?_range hi]; rfl
        rw [e]; exact h1
    · intro x hx
      obtain ⟨i, hi, rfl⟩ := List.mem_map.1 hx
      exact (hf2 i (by have := List.mem_range.1 hi; omega)).2

/-- the reach of such an argument -/
theorem reach_floats {ts : List TypeId} {ds : List (DataW H)} {t e : TypeId} {j : Nat} {d : DataW H} {len cap bytes : Nat} (hsz : (DataW.weightsEach P ts ds).all (· ≤ reachBytes) = true) (ht : ts[j]? = some t) (hd : ds[j]? = some d)
    (hu : P.underlying t = some (.slice e)) (hb : P.bytesOf e = bytes) (h : (d = .nil ∧ len = 0 ∧ cap = 0) ∨ ∃ el sp, d = .slice el sp ∧ el.length + sp.length = cap) : cap * bytes ≤ 140737488351232 := by
  rcases h with ⟨_, _, rfl⟩ | ⟨el, sp, rfl, hl⟩
  · omega
  · have := sized_slice hsz ht hd hu
    rw [hb, hl] at this
    exact this
end
end Go.Mem
