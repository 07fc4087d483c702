/- What a deed leaves of a change's memory; the walks of the deeds that turn a link or a router. Conditions: as each theorem's hypotheses say. -/
import Derived.Test.YtgmljlgoaifneaaGas
import Derived.Test.YtgmljlgoaifneaaGis
import Derived.Test.YtgmljlgoaifneaaGaa
namespace Go.Proofs.Ytgmljlgoaifneaa
open Go.RowKit Flt Go.Mem Go.Lib
set_option linter.unusedVariables false

attribute [local go_sem] run_store_float
set_option maxHeartbeats 1600000
set_option maxRecDepth 100000
/-- what a deed leaves: its answer, the change's block, both rows; what stays -/
def DPost (base g : Nat) (k a b : Int) (x : Nat) (A A2 : Option Addr) (n c m c2 : Nat) (E : Int) (ns : List Nd) (ls : List Lk) (w : World) (e : Ending) (w' : World) : Prop :=
  ∃ A' n' c' A2' m' c2', e = .returned (.int .i64 E) ∧ CB w' g (.slice A' n' c') (.slice A2' m' c2') k a b x ∧ w'.ownsRow base 52 3 (.slice A' n' c') n' (ns.flatMap ndC) ∧ w'.ownsRow base 54 4 (.slice A2' m' c2') m' (ls.flatMap lkC) ∧ Below base w w' ∧
    (∀ q, q < w.heap.size → q ≠ g → some q ≠ (Value.slice A n c).ownBlock → some q ≠ (Value.slice A2 m c2).ownBlock → w'.heap[q]? = w.heap[q]?) ∧ (E ≠ 0 → A' = A ∧ n' = n ∧ c' = c ∧ A2' = A2 ∧ m' = m ∧ c2' = c2)
section
variable {base g : Nat} {k a b : Int} {x : Nat} {A A2 : Option Addr} {n c m c2 : Nat} {ns : List Nd} {ls : List Lk} {w : World}
theorem dpost_same (hcb : CB w g (.slice A n c) (.slice A2 m c2) k a b x) (hn : w.ownsRow base 52 3 (.slice A n c) n (ns.flatMap ndC)) (hl : w.ownsRow base 54 4 (.slice A2 m c2) m (ls.flatMap lkC)) (hb : base ≤ w.heap.size) (E : Int) {w' : World} (hw : Below w.heap.size w w') :
    DPost base g k a b x A A2 n c m c2 E ns ls w (.returned (.int .i64 E)) w' :=
  ⟨A, n, c, A2, m, c2, rfl, hcb.below hw hcb.lt, own_below hn hw, own_below hl hw, hw.mono hb, fun q hq _ _ _ => hw.block q hq, fun _ => ⟨rfl, rfl, rfl, rfl, rfl, rfl⟩⟩
theorem dpost_drewN {E : Int} {ns' : List Nd} {ls' : List Lk} {e : Ending} {w' : World} (h : DPost base g k a b x A A2 n c m c2 E ns' ls' w e w') (q : Nat) : DPost base g k a b x A A2 n c m c2 E ns' ls' w e (w'.drewN q) := by
  obtain ⟨A', n', c', A2', m', c2', rfl, h1, h2, h3, h4, h5⟩ := h
  exact ⟨A', n', c', A2', m', c2', rfl, h1.drewN q, own_drewN h2 q, own_drewN h3 q, below_drewN h4 q, h5⟩
theorem own_ne2 {base2 size2 n2 g2 : Nat} {size1 n1 : Nat} {e e2 : TypeId} {v : Value} {c' : Nat} {xs ys : List Value} (h : w.ownsRow base e size1 v n1 xs) (h2 : w.ownsRow base2 e2 size2 (.slice (some ⟨g2, 0, none⟩) n2 c') n2 ys) (he : e ≠ e2) : v.ownBlock ≠ some g2 := fun hb => by
  rcases h.2 with ⟨rfl, _⟩ | ⟨g3, cap, cur, rfl, _, hh, _⟩
  · simp [Value.ownBlock] at hb
  · simp [Value.ownBlock] at hb
    subst hb
    rcases h2.2 with ⟨h4, _⟩ | ⟨g4, cap4, cur4, h4, _, hh4, _⟩
    · cases h4
    · injection h4 with h5
      injection h5 with h5
      injection h5 with h5
      subst h5
      rw [hh] at hh4
      simp at hh4
      exact he hh4.2
theorem flat_set {α : Type} (f : α → List Value) (k : Nat) (hf : ∀ x, (f x).length = k) (u : Value) (j : Nat) (hj : j < k) : ∀ (l : List α) (i : Nat) (y z : α), l[i]? = some z → (f z).set j u = f y → (l.flatMap f).set (i * k + j) u = (l.set i y).flatMap f
  | [], i, y, z, h, _ => by simp at h
  | z0 :: l, 0, y, z, h, hs => by
    simp at h; subst h
    rw [Nat.zero_mul, Nat.zero_add, List.flatMap_cons, List.set_cons_zero, List.flatMap_cons, List.set_append_left _ _ (by rw [hf]; exact hj), hs]
  | z0 :: l, i + 1, y, z, h, hs => by
    rw [List.flatMap_cons, List.set_cons_succ, List.flatMap_cons, List.set_append_right _ _ (by rw [hf, Nat.succ_mul]; omega), hf]
    rw [show (i + 1) * k + j - k = i * k + j by rw [Nat.succ_mul]; omega]
    rw [flat_set f k hf u j hj l i y z (by simpa using h) hs]
theorem dpost_setL {g2 i j : Nat} {y : Lk} {u : Value} (hcb : CB w g (.slice A n c) (.slice (some ⟨g2, 0, none⟩) m c2) k a b x) (hn : w.ownsRow base 52 3 (.slice A n c) n (ns.flatMap ndC)) (hl : w.ownsRow base 54 4 (.slice (some ⟨g2, 0, none⟩) m c2) m (ls.flatMap lkC)) (hb : base ≤ w.heap.size) {w1 : World} (hw : Below w.heap.size w w1)
    (hi : i < m) (hj : j < 4) (hy : (lkC (lkA ls i)).set j u = lkC y) : DPost base g k a b x A (some ⟨g2, 0, none⟩) n c m c2 0 ns (ls.set i y) w (.returned (.int .i64 0)) (w1.setCell ⟨g2, i * 4 + j, none⟩ u) := by
  have hc1 := hcb.below hw hcb.lt
  have hn1 := own_below hn hw
  have hl1 := own_below hl hw
  have hne := own_ne hl1 hc1 (by decide)
  have hne2 := own_ne2 hn1 hl1 (by decide)
  have hlen : ls.length = m := (GL.of_own hl).1
  have hg2 := hl.lt g2 rfl
  have hs := hl1.stored (i * 4 + j) u
  rw [flat_set lkC 4 (fun _ => rfl) u j hj ls i y _ (lkA_some (by omega)) hy] at hs
  refine ⟨A, n, c, some ⟨g2, 0, none⟩, m, c2, rfl, ?_, hn1.kept hs.2 (.inr hne2), hs.1, (hw.mono hb).setCell (p := ⟨g2, i * 4 + j, none⟩) hg2.1 _, fun q hq h1 h2 h3 => ?_, fun h => absurd rfl h⟩
  · unfold CB
    rw [Go.heap_setCell_other w1 ⟨g2, i * 4 + j, none⟩ g u (fun e => hne (by rw [e]; rfl))]
    exact hc1
  · rw [Go.heap_setCell_other w1 ⟨g2, i * 4 + j, none⟩ q u (fun e => h3 (by rw [e]; rfl))]
    exact hw.block q hq
theorem dpost_setN {g2 i j : Nat} {y : Nd} {u : Value} (hcb : CB w g (.slice (some ⟨g2, 0, none⟩) n c) (.slice A2 m c2) k a b x) (hn : w.ownsRow base 52 3 (.slice (some ⟨g2, 0, none⟩) n c) n (ns.flatMap ndC)) (hl : w.ownsRow base 54 4 (.slice A2 m c2) m (ls.flatMap lkC)) (hb : base ≤ w.heap.size) {w1 : World} (hw : Below w.heap.size w w1)
    (hi : i < n) (hj : j < 3) (hy : (ndC (ndA ns i)).set j u = ndC y) : DPost base g k a b x (some ⟨g2, 0, none⟩) A2 n c m c2 0 (ns.set i y) ls w (.returned (.int .i64 0)) (w1.setCell ⟨g2, i * 3 + j, none⟩ u) := by
  have hc1 := hcb.below hw hcb.lt
  have hn1 := own_below hn hw
  have hl1 := own_below hl hw
  have hne := own_ne hn1 hc1 (by decide)
  have hne2 := own_ne2 hl1 hn1 (by decide)
  have hlen : ns.length = n := (GN.of_own hn).1
  have hg2 := hn.lt g2 rfl
  have hs := hn1.stored (i * 3 + j) u
  rw [flat_set ndC 3 (fun _ => rfl) u j hj ns i y _ (ndA_some (by omega)) hy] at hs
  refine ⟨some ⟨g2, 0, none⟩, n, c, A2, m, c2, rfl, ?_, hs.1, hl1.kept hs.2 (.inr hne2), (hw.mono hb).setCell (p := ⟨g2, i * 3 + j, none⟩) hg2.1 _, fun q hq h1 h2 h3 => ?_, fun h => absurd rfl h⟩
  · unfold CB
    rw [Go.heap_setCell_other w1 ⟨g2, i * 3 + j, none⟩ g u (fun e => hne (by rw [e]; rfl))]
    exact hc1
  · rw [Go.heap_setCell_other w1 ⟨g2, i * 3 + j, none⟩ q u (fun e => h2 (by rw [e]; rfl))]
    exact hw.block q hq
end
theorem cnt_lk {ls : List Lk} (hr : RiseL ls) {t : Lk} (h : hasL ls t = true) : cntL ls t < ls.length ∧ (lkA ls (cntL ls t)).a = t.a ∧ (lkA ls (cntL ls t)).b = t.b := by
  obtain ⟨i, hi, e1, e2⟩ := hasL_iff.1 h
  have : cntL ls t = i := bl_end (by omega) (fun k hk => by
      have := hr k i hk hi
      rw [lkLt_iff] at this ⊢; omega) (fun k hk hl h => by
      by_cases e : i = k
      · subst e; rw [lkLt_iff] at h; omega
      · have := hr i k (by omega) hl
        rw [lkLt_iff] at this h; omega)
  rw [this]; exact ⟨hi, e1, e2⟩
end Go.Proofs.Ytgmljlgoaifneaa
