/- The walks of the two Ofs. Conditions: lists of less than 2^45 floats, words of 64 bits. -/
import Derived.Test.YtjcgachdnkdamaaDoorSrs
namespace Go.Proofs.YtjcgachdnkdamaaDoor
open Go.RowKit Flt Go.Mem Go.Lib
set_option linter.unusedVariables false

attribute [local go_sem] run_store_float
set_option maxHeartbeats 3200000
set_option maxRecDepth 100000
/-- those that are numbers, of the first k; how many are none, how many are infinite -/
def someL (l : List Nat) : Nat → List Nat
  | 0 => []
  | k + 1 => if isnan (fat l k) then someL l k else someL l k ++ [fat l k]
def nanN (l : List Nat) : Nat → Nat
  | 0 => 0
  | k + 1 => if isnan (fat l k) then nanN l k + 1 else nanN l k
def infN (l : List Nat) : Nat → Nat
  | 0 => 0
  | k + 1 => if isnan (fat l k) then infN l k else if isinf (fat l k) then infN l k + 1 else infN l k
theorem of_bd (l : List Nat) : ∀ k, (someL l k).length ≤ k ∧ nanN l k ≤ k ∧ infN l k ≤ k
  | 0 => ⟨Nat.le_refl _, Nat.le_refl _, Nat.le_refl _⟩
  | k + 1 => by
    obtain ⟨h1, h2, h3⟩ := of_bd l k
    unfold someL nanN infN
    refine ⟨?_, ?_, ?_⟩
    · split
      · omega
      · simp; omega
    · split <;> omega
    · split
      · omega
      · split <;> omega
theorem someL_lt {l : List Nat} (h : ∀ x ∈ l, x < 18446744073709551616) : ∀ k, ∀ x ∈ someL l k, x < 18446744073709551616
  | 0, _, hx => by cases hx
  | k + 1, x, hx => by
    unfold someL at hx
    split at hx
    · exact someL_lt h k x hx
    · rcases List.mem_append.1 hx with h1 | h1
      · exact someL_lt h k x h1
      · simp only [List.mem_singleton] at h1; subst h1; exact fat_lt h k
theorem of_nan {l : List Nat} {k : Nat} (h : isnan (fat l k) = true) : someL l (k + 1) = someL l k ∧ nanN l (k + 1) = nanN l k + 1 ∧ infN l (k + 1) = infN l k := by
  refine ⟨?_, ?_, ?_⟩
  · show (if _ then _ else _) = _; rw [if_pos h]
  · show (if _ then _ else _) = _; rw [if_pos h]
  · show (if _ then _ else _) = _; rw [if_pos h]
theorem of_inf {l : List Nat} {k : Nat} (h : isnan (fat l k) = false) (g : isinf (fat l k) = true) : someL l (k + 1) = someL l k ++ [fat l k] ∧ nanN l (k + 1) = nanN l k ∧ infN l (k + 1) = infN l k + 1 := by
  have h' : ¬ isnan (fat l k) = true := by rw [h]; decide
  refine ⟨?_, ?_, ?_⟩
  · show (if _ then _ else _) = _; rw [if_neg h']
  · show (if _ then _ else _) = _; rw [if_neg h']
  · show (if _ then _ else (if _ then _ else _)) = _; rw [if_neg h', if_pos g]
theorem of_fin {l : List Nat} {k : Nat} (h : isnan (fat l k) = false) (g : isinf (fat l k) = false) : someL l (k + 1) = someL l k ++ [fat l k] ∧ nanN l (k + 1) = nanN l k ∧ infN l (k + 1) = infN l k := by
  have h' : ¬ isnan (fat l k) = true := by rw [h]; decide
  have g' : ¬ isinf (fat l k) = true := by rw [g]; decide
  refine ⟨?_, ?_, ?_⟩
  · show (if _ then _ else _) = _; rw [if_neg h']
  · show (if _ then _ else _) = _; rw [if_neg h']
  · show (if _ then _ else (if _ then _ else _)) = _; rw [if_neg h', if_neg g']
/-- a struct's block -/
def OB (w : World) (g : Nat) (N a i : Int) (le mi mo me : Nat) : Prop := w.heap[g]? = some (.cells #[.int .i64 N, .int .i64 a, .int .i64 i, .float .f64 le, .float .f64 mi, .float .f64 mo, .float .f64 me] 30 (0, 0))
theorem OB.drewN {w : World} {g : Nat} {N a i : Int} {le mi mo me : Nat} (h : OB w g N a i le mi mo me) (q : Nat) : OB (w.drewN q) g N a i le mi mo me := h
theorem OB.below {w w' : World} {g B : Nat} {N a i : Int} {le mi mo me : Nat} (h : OB w g N a i le mi mo me) (hb : Below B w w') (hg : g < B) : OB w' g N a i le mi mo me := (hb.block g hg).trans h
theorem OB.lt {w : World} {g : Nat} {N a i : Int} {le mi mo me : Nat} (h : OB w g N a i le mi mo me) : g < w.heap.size := by
  rcases Nat.lt_or_ge g w.heap.size with hlt | hge
  · exact hlt
  · unfold OB at h; rw [Array.getElem?_eq_none hge] at h; cases h
theorem OB.set {w : World} {g g2 : Nat} {N a i : Int} {le mi mo me : Nat} (h : OB w g N a i le mi mo me) (hg : g ≠ g2) (j : Nat) (v : Value) : OB (w.setCell ⟨g2, j, none⟩ v) g N a i le mi mo me := by
  unfold OB; rw [Go.heap_setCell_other w _ _ _ hg]; exact h
theorem OB.c0 {w : World} {g : Nat} {N a i : Int} {le mi mo me : Nat} (h : OB w g N a i le mi mo me) : w.cell? ⟨g, 0, none⟩ = some (.int .i64 N) ∧ w.frozen? ⟨g, 0, none⟩ = false := ⟨(Go.cell_of_row w g 0 _ _ _ h).trans rfl, Go.frozen_of_row w g 0 _ _ h⟩
theorem OB.s0 {w : World} {g : Nat} {N a i : Int} {le mi mo me : Nat} (h : OB w g N a i le mi mo me) (N' : Int) : OB (w.setCell ⟨g, 0, none⟩ (.int .i64 N')) g N' a i le mi mo me := (Go.heap_setCell_same w g 0 _ _ _ h).trans rfl
theorem OB.c1 {w : World} {g : Nat} {N a i : Int} {le mi mo me : Nat} (h : OB w g N a i le mi mo me) : w.cell? ⟨g, 1, none⟩ = some (.int .i64 a) ∧ w.frozen? ⟨g, 1, none⟩ = false := ⟨(Go.cell_of_row w g 1 _ _ _ h).trans rfl, Go.frozen_of_row w g 1 _ _ h⟩
theorem OB.s1 {w : World} {g : Nat} {N a i : Int} {le mi mo me : Nat} (h : OB w g N a i le mi mo me) (a' : Int) : OB (w.setCell ⟨g, 1, none⟩ (.int .i64 a')) g N a' i le mi mo me := (Go.heap_setCell_same w g 1 _ _ _ h).trans rfl
theorem OB.c2 {w : World} {g : Nat} {N a i : Int} {le mi mo me : Nat} (h : OB w g N a i le mi mo me) : w.cell? ⟨g, 2, none⟩ = some (.int .i64 i) ∧ w.frozen? ⟨g, 2, none⟩ = false := ⟨(Go.cell_of_row w g 2 _ _ _ h).trans rfl, Go.frozen_of_row w g 2 _ _ h⟩
theorem OB.s2 {w : World} {g : Nat} {N a i : Int} {le mi mo me : Nat} (h : OB w g N a i le mi mo me) (i' : Int) : OB (w.setCell ⟨g, 2, none⟩ (.int .i64 i')) g N a i' le mi mo me := (Go.heap_setCell_same w g 2 _ _ _ h).trans rfl
theorem OB.c3 {w : World} {g : Nat} {N a i : Int} {le mi mo me : Nat} (h : OB w g N a i le mi mo me) : w.cell? ⟨g, 3, none⟩ = some (.float .f64 le) ∧ w.frozen? ⟨g, 3, none⟩ = false := ⟨(Go.cell_of_row w g 3 _ _ _ h).trans rfl, Go.frozen_of_row w g 3 _ _ h⟩
theorem OB.s3 {w : World} {g : Nat} {N a i : Int} {le mi mo me : Nat} (h : OB w g N a i le mi mo me) (le' : Nat) : OB (w.setCell ⟨g, 3, none⟩ (.float .f64 le')) g N a i le' mi mo me := (Go.heap_setCell_same w g 3 _ _ _ h).trans rfl
theorem OB.c4 {w : World} {g : Nat} {N a i : Int} {le mi mo me : Nat} (h : OB w g N a i le mi mo me) : w.cell? ⟨g, 4, none⟩ = some (.float .f64 mi) ∧ w.frozen? ⟨g, 4, none⟩ = false := ⟨(Go.cell_of_row w g 4 _ _ _ h).trans rfl, Go.frozen_of_row w g 4 _ _ h⟩
theorem OB.s4 {w : World} {g : Nat} {N a i : Int} {le mi mo me : Nat} (h : OB w g N a i le mi mo me) (mi' : Nat) : OB (w.setCell ⟨g, 4, none⟩ (.float .f64 mi')) g N a i le mi' mo me := (Go.heap_setCell_same w g 4 _ _ _ h).trans rfl
theorem OB.c5 {w : World} {g : Nat} {N a i : Int} {le mi mo me : Nat} (h : OB w g N a i le mi mo me) : w.cell? ⟨g, 5, none⟩ = some (.float .f64 mo) ∧ w.frozen? ⟨g, 5, none⟩ = false := ⟨(Go.cell_of_row w g 5 _ _ _ h).trans rfl, Go.frozen_of_row w g 5 _ _ h⟩
theorem OB.s5 {w : World} {g : Nat} {N a i : Int} {le mi mo me : Nat} (h : OB w g N a i le mi mo me) (mo' : Nat) : OB (w.setCell ⟨g, 5, none⟩ (.float .f64 mo')) g N a i le mi mo' me := (Go.heap_setCell_same w g 5 _ _ _ h).trans rfl
theorem OB.c6 {w : World} {g : Nat} {N a i : Int} {le mi mo me : Nat} (h : OB w g N a i le mi mo me) : w.cell? ⟨g, 6, none⟩ = some (.float .f64 me) ∧ w.frozen? ⟨g, 6, none⟩ = false := ⟨(Go.cell_of_row w g 6 _ _ _ h).trans rfl, Go.frozen_of_row w g 6 _ _ h⟩
theorem OB.s6 {w : World} {g : Nat} {N a i : Int} {le mi mo me : Nat} (h : OB w g N a i le mi mo me) (me' : Nat) : OB (w.setCell ⟨g, 6, none⟩ (.float .f64 me')) g N a i le mi mo me' := (Go.heap_setCell_same w g 6 _ _ _ h).trans rfl
theorem own_below {w w' : World} {base size n : Nat} {e : TypeId} {v : Value} {xs : List Value} (h : w.ownsRow base e size v n xs) (hb : Below w.heap.size w w') : w'.ownsRow base e size v n xs :=
  h.kept (row := none) ⟨hb.os, hb.tape, hb.output, hb.size, fun k hk _ => hb.block k hk⟩ (by cases v.ownBlock <;> simp)
theorem own_set {w : World} {base size n g j : Nat} {e : TypeId} {v u : Value} {xs : List Value} (h : w.ownsRow base e size v n xs) (hg : g < base) : (w.setCell ⟨g, j, none⟩ u).ownsRow base e size v n xs :=
  h.kept (row := some g) ⟨rfl, rfl, rfl, by simp [World.setCell], fun k _ hk => Go.heap_setCell_other w ⟨g, j, none⟩ k u (fun e => hk (by simp [e]))⟩ (by
    right
    intro e
    have := (h.lt g e).1
    omega)
theorem own_drewN {w : World} {base size n : Nat} {e : TypeId} {v : Value} {xs : List Value} (h : w.ownsRow base e size v n xs) (q : Nat) : (w.drewN q).ownsRow base e size v n xs := h
/-- what a list is like -/
def OfV (l : List Nat) (n : Nat) (N a i : Int) (le mi mo me : Nat) : Prop :=
  N = ((someL l n).length : Nat) ∧ a = (nanN l n : Nat) ∧ i = (infN l n : Nat) ∧
  (((someL l n).length = 0 ∧ le = 9221120237041090560 ∧ mi = 9221120237041090560 ∧ mo = 9221120237041090560 ∧ me = 9221120237041090560) ∨
   (0 < (someL l n).length ∧ ∃ r er, SortedOf (someL l n) (someL l n).length r ∧ le = fat r 0 ∧ mo = fat r ((someL l n).length - 1) ∧ QuantV (someL l n) (someL l n).length 500 mi er ∧ me = meanW (someL l n) (someL l n).length))
theorem OfV.one {l : List Nat} {n : Nat} {N a i N2 a2 i2 : Int} {le mi mo me le2 mi2 mo2 me2 : Nat} (h : OfV l n N a i le mi mo me) (g : OfV l n N2 a2 i2 le2 mi2 mo2 me2) : N = N2 ∧ a = a2 ∧ i = i2 ∧ le = le2 ∧ mi = mi2 ∧ mo = mo2 ∧ me = me2 := by
  obtain ⟨rfl, rfl, rfl, h⟩ := h
  obtain ⟨rfl, rfl, rfl, g⟩ := g
  refine ⟨rfl, rfl, rfl, ?_⟩
  rcases h with ⟨h0, rfl, rfl, rfl, rfl⟩ | ⟨h0, r, er, hs, rfl, rfl, hq, rfl⟩ <;> rcases g with ⟨g0, rfl, rfl, rfl, rfl⟩ | ⟨g0, r2, er2, gs, rfl, rfl, gq, rfl⟩
  · exact ⟨rfl, rfl, rfl, rfl⟩
  · omega
  · omega
  · obtain rfl := hs.one gs
    exact ⟨rfl, (hq.one gq).1, rfl, rfl⟩
theorem sorted_fat_lt {l r : List Nat} {n : Nat} (h : SortedOf l n r) (hl : ∀ x ∈ l, x < 18446744073709551616) (k : Nat) : fat r k < 18446744073709551616 := by
  by_cases hk : k < n
  · obtain ⟨j, _, e⟩ := h.of hk
    rw [e]; exact fat_lt hl j
  · unfold fat
    rw [List.getD_eq_getElem?_getD, List.getElem?_eq_none (by have := h.1; omega)]
    exact (by decide : 0 < 18446744073709551616)
theorem meanW_lt (l : List Nat) (n : Nat) : meanW l n < 18446744073709551616 := by
  unfold meanW
  split
  · decide
  · split
    · rename_i v hv
      split
      · decide
      · exact Ieee.Format.div_lt Ieee.double hv
    · decide
theorem OfV.lt {l : List Nat} {n : Nat} {N a i : Int} {le mi mo me : Nat} (h : OfV l n N a i le mi mo me) (hl : ∀ x ∈ l, x < 18446744073709551616) (hn : n ≤ 9223372036854775807) :
    (-9223372036854775808 ≤ N ∧ N ≤ 9223372036854775807) ∧ (-9223372036854775808 ≤ a ∧ a ≤ 9223372036854775807) ∧ (-9223372036854775808 ≤ i ∧ i ≤ 9223372036854775807) ∧ le < 18446744073709551616 ∧ mi < 18446744073709551616 ∧ mo < 18446744073709551616 ∧ me < 18446744073709551616 := by
  obtain ⟨b1, b2, b3⟩ := of_bd l n
  obtain ⟨rfl, rfl, rfl, h⟩ := h
  refine ⟨by omega, by omega, by omega, ?_⟩
  rcases h with ⟨_, rfl, rfl, rfl, rfl⟩ | ⟨_, r, er, hs, rfl, rfl, hq, rfl⟩
  · exact ⟨by decide, by decide, by decide, by decide⟩
  · have hl2 := someL_lt hl n
    refine ⟨sorted_fat_lt hs hl2 _, ?_, sorted_fat_lt hs hl2 _, meanW_lt _ _⟩
    rcases hq with ⟨_, rfl, _⟩ | ⟨_, _, rfl, _⟩ | ⟨_, _, _, rfl, _⟩ | ⟨_, _, _, _, r2, hs2, rfl⟩
    · decide
    · decide
    · decide
    · exact sorted_fat_lt hs2 hl2 _

end Go.Proofs.YtjcgachdnkdamaaDoor
