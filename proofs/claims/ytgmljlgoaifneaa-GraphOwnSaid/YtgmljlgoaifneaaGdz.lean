/- What a change does, kind by kind; what graph.apply leaves. Conditions: as each theorem's hypotheses say. -/
import Derived.Test.YtgmljlgoaifneaaGdw
import Derived.Test.YtgmljlgoaifneaaGde
import Derived.Test.YtgmljlgoaifneaaGaa
namespace Go.Proofs.Ytgmljlgoaifneaa
open Go.RowKit Flt Go.Mem Go.Lib
set_option linter.unusedVariables false

theorem turn4 (x : Nat) : turnL 4 x = fun y => ⟨y.a, y.b, y.w, false⟩ := by funext y; rfl
theorem turn5 (x : Nat) : turnL 5 x = fun y => ⟨y.a, y.b, y.w, true⟩ := by funext y; rfl
section
variable {ns : List Nd} {ls : List Lk} {k a b : Int} {x : Nat}
theorem ap_bad (h : bareB k b x = false) : apE ns ls k a b x = 1 ∧ apN ns ls k a b x = ns ∧ apL ns ls k a b x = ls := by
  have e : apE ns ls k a b x = 1 := by unfold apE; rw [if_pos h]
  exact ⟨e, by unfold apN; rw [if_neg (by rw [e]; decide)], by unfold apL; rw [if_neg (by rw [e]; decide)]⟩
theorem ap_1 (h : bareB 1 b x = true) : apE ns ls 1 a b x = (if idOk a = false then 70 else if hasN ns a = true then 72 else if 256 ≤ ns.length then 2 else 0) ∧ apN ns ls 1 a b x = (if apE ns ls 1 a b x = 0 then addN ns a else ns) ∧ apL ns ls 1 a b x = ls := by
  refine ⟨by unfold apE; rw [if_neg (by rw [h]; decide), if_pos rfl], rfl, ?_⟩
  unfold apL; split
  · rfl
  · rfl
theorem ap_2 (h : bareB 2 b x = true) : apE ns ls 2 a b x = (if hasN ns a = false then 70 else if hasN ns b = false then 70 else if a = b then 71 else if hasL ls (lkT a b) = true then 72 else if withinI x 4697254411347427328 = 0 then (if 4096 ≤ ls.length then 2 else 0) else withinI x 4697254411347427328) ∧ apL ns ls 2 a b x = (if apE ns ls 2 a b x = 0 then addL ls ⟨mnI a b, mxI a b, x, true⟩ else ls) ∧ apN ns ls 2 a b x = ns := by
  refine ⟨by unfold apE; rw [if_neg (by rw [h]; decide), if_neg (by decide), if_pos rfl], rfl, ?_⟩
  unfold apN; split
  · rfl
  · rfl
theorem ap_3 (h : bareB 3 b x = true) : apE ns ls 3 a b x = (if hasL ls (lkT a b) = false then 4 else withinI x 4697254411347427328) ∧ apL ns ls 3 a b x = (if hasL ls (lkT a b) = true ∧ withinI x 4697254411347427328 = 0 then modL ls (lkT a b) (turnL 3 x) else ls) ∧ apN ns ls 3 a b x = ns := by
  have e : apE ns ls 3 a b x = (if hasL ls (lkT a b) = false then 4 else withinI x 4697254411347427328) := by unfold apE; rw [if_neg (by rw [h]; decide), if_neg (by decide), if_neg (by decide), if_pos rfl]
  refine ⟨e, ?_, ?_⟩
  · unfold apL
    rw [e]
    cases hasL ls (lkT a b)
    · rw [if_pos rfl, if_neg (by decide : ¬ (4 : Int) = 0), if_neg (by rintro ⟨h, _⟩; cases h)]
    · rw [if_neg (by decide : ¬ true = false)]
      by_cases hz : withinI x 4697254411347427328 = 0
      · rw [if_pos hz, if_neg (by decide : ¬ (3 : Int) = 2), if_pos (by decide : (3 : Int) ≤ 3 ∧ (3 : Int) ≤ 5), if_pos ⟨rfl, hz⟩]
      · rw [if_neg hz, if_neg (by rintro ⟨_, h⟩; exact hz h)]
  · unfold apN; split
    · rfl
    · rfl
theorem ap_4 (h : bareB 4 b x = true) : apE ns ls 4 a b x = (if hasL ls (lkT a b) = false then 4 else 0) ∧ apL ns ls 4 a b x = (if hasL ls (lkT a b) = true then modL ls (lkT a b) (fun y => ⟨y.a, y.b, y.w, false⟩) else ls) ∧ apN ns ls 4 a b x = ns := by
  have e : apE ns ls 4 a b x = (if hasL ls (lkT a b) = false then 4 else 0) := by unfold apE; rw [if_neg (by rw [h]; decide), if_neg (by decide), if_neg (by decide), if_neg (by decide), if_pos (by decide)]
  refine ⟨e, ?_, ?_⟩
  · unfold apL
    rw [e]
    cases hasL ls (lkT a b)
    · rw [if_neg (by decide), if_neg (by decide)]
    · rw [if_pos (by decide), if_pos rfl, ← turn4 x]; rfl
  · unfold apN; split
    · rfl
    · rfl
theorem ap_5 (h : bareB 5 b x = true) : apE ns ls 5 a b x = (if hasL ls (lkT a b) = false then 4 else 0) ∧ apL ns ls 5 a b x = (if hasL ls (lkT a b) = true then modL ls (lkT a b) (fun y => ⟨y.a, y.b, y.w, true⟩) else ls) ∧ apN ns ls 5 a b x = ns := by
  have e : apE ns ls 5 a b x = (if hasL ls (lkT a b) = false then 4 else 0) := by unfold apE; rw [if_neg (by rw [h]; decide), if_neg (by decide), if_neg (by decide), if_neg (by decide), if_pos (by decide)]
  refine ⟨e, ?_, ?_⟩
  · unfold apL
    rw [e]
    cases hasL ls (lkT a b)
    · rw [if_neg (by decide), if_neg (by decide)]
    · rw [if_pos (by decide), if_pos rfl, ← turn5 x]; rfl
  · unfold apN; split
    · rfl
    · rfl
theorem ap_6 (h : bareB 6 b x = true) : apE ns ls 6 a b x = (if hasN ns a = false then 4 else 0) ∧ apN ns ls 6 a b x = (if hasN ns a = true then modN ns a (turnN 6) else ns) ∧ apL ns ls 6 a b x = ls := by
  have e : apE ns ls 6 a b x = (if hasN ns a = false then 4 else 0) := by unfold apE; rw [if_neg (by rw [h]; decide), if_neg (by decide), if_neg (by decide), if_neg (by decide), if_neg (by decide)]
  refine ⟨e, ?_, ?_⟩
  · unfold apN
    rw [e]
    cases hasN ns a
    · rw [if_neg (by decide), if_neg (by decide)]
    · rw [if_pos (by decide), if_pos rfl]; rfl
  · unfold apL; split
    · rfl
    · rfl
theorem ap_7 (h : bareB 7 b x = true) : apE ns ls 7 a b x = (if hasN ns a = false then 4 else 0) ∧ apN ns ls 7 a b x = (if hasN ns a = true then modN ns a (turnN 7) else ns) ∧ apL ns ls 7 a b x = ls := by
  have e : apE ns ls 7 a b x = (if hasN ns a = false then 4 else 0) := by unfold apE; rw [if_neg (by rw [h]; decide), if_neg (by decide), if_neg (by decide), if_neg (by decide), if_neg (by decide)]
  refine ⟨e, ?_, ?_⟩
  · unfold apN
    rw [e]
    cases hasN ns a
    · rw [if_neg (by decide), if_neg (by decide)]
    · rw [if_pos (by decide), if_pos rfl]; rfl
  · unfold apL; split
    · rfl
    · rfl
theorem ap_8 (h : bareB 8 b x = true) : apE ns ls 8 a b x = (if hasN ns a = false then 4 else 0) ∧ apN ns ls 8 a b x = (if hasN ns a = true then modN ns a (turnN 8) else ns) ∧ apL ns ls 8 a b x = ls := by
  have e : apE ns ls 8 a b x = (if hasN ns a = false then 4 else 0) := by unfold apE; rw [if_neg (by rw [h]; decide), if_neg (by decide), if_neg (by decide), if_neg (by decide), if_neg (by decide)]
  refine ⟨e, ?_, ?_⟩
  · unfold apN
    rw [e]
    cases hasN ns a
    · rw [if_neg (by decide), if_neg (by decide)]
    · rw [if_pos (by decide), if_pos rfl]; rfl
  · unfold apL; split
    · rfl
    · rfl
theorem ap_9 (h : bareB 9 b x = true) : apE ns ls 9 a b x = (if hasN ns a = false then 4 else 0) ∧ apN ns ls 9 a b x = (if hasN ns a = true then modN ns a (turnN 9) else ns) ∧ apL ns ls 9 a b x = ls := by
  have e : apE ns ls 9 a b x = (if hasN ns a = false then 4 else 0) := by unfold apE; rw [if_neg (by rw [h]; decide), if_neg (by decide), if_neg (by decide), if_neg (by decide), if_neg (by decide)]
  refine ⟨e, ?_, ?_⟩
  · unfold apN
    rw [e]
    cases hasN ns a
    · rw [if_neg (by decide), if_neg (by decide)]
    · rw [if_pos (by decide), if_pos rfl]; rfl
  · unfold apL; split
    · rfl
    · rfl
end
/-- what graph.apply leaves: the graph behind it, its answer, both rows of its own -/
def APost (base : Nat) (A A2 : Option Addr) (n c m c2 : Nat) (E : Int) (ns : List Nd) (ls : List Lk) (w : World) (e : Ending) (w' : World) : Prop :=
  ∃ A' n' c' A2' m' c2', e = .returned (.tuple #[.agg #[.slice A' n' c', .slice A2' m' c2'], .int .i64 E]) ∧ w'.ownsRow base 52 3 (.slice A' n' c') n' (ns.flatMap ndC) ∧ w'.ownsRow base 54 4 (.slice A2' m' c2') m' (ls.flatMap lkC) ∧ Below base w w' ∧ (∀ q, q < w.heap.size → some q ≠ (Value.slice A n c).ownBlock → some q ≠ (Value.slice A2 m c2).ownBlock → w'.heap[q]? = w.heap[q]?) ∧ (E ≠ 0 → A' = A ∧ n' = n ∧ c' = c ∧ A2' = A2 ∧ m' = m ∧ c2' = c2)
theorem cell_other {w : World} {p q : Addr} {v u : Value} (h : w.cell? p = some v) (hne : p.block ≠ q.block) : (w.setCell q u).cell? p = some v := (World.cell?_of_block (Go.heap_setCell_other w q p.block u hne)).trans h

end Go.Proofs.Ytgmljlgoaifneaa
