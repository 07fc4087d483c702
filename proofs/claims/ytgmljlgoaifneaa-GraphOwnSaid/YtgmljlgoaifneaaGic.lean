/- copy of elements of several cells into a row that is known whole; rows taken apart and put together: plain laws over any program. Conditions: as each theorem's hypotheses say. -/
import Derived.Laws.CopyOwn
import Derived.Laws.OwnMore
import Derived.Lib.Overlaps
import Derived.Lib.AppendZerosOnto
import Derived.Deep.RegionLaw
import Derived.Deep.AppendLies
namespace Go.Mem
open Go Go.RowKit
set_option linter.unusedVariables false
theorem run_copy_rowK {P : Program} (w : World) (dT sT ty elem : TypeId) (k g o dLen dCap : Nat) (a : Addr) (sLen sCap : Nat) (cur : Array Value) (t : TypeId) (cs : List Value)
    (hu : P.underlying dT = some (.slice elem)) (hs : (P.info? elem).map (·.size) = some k)
    (hg : w.heap[g]? = some (.cells cur t (0, 0))) (hn : cs.length = Nat.min sLen dLen * k)
    (hsrc : ∀ j v, cs[j]? = some v → w.cell? (a.add j) = some v) (hfit : o + cs.length ≤ cur.size) (h1 : ∀ v ∈ cs, v.oneCell' = true) :
    (Builtin.copy_ #[dT, sT] ty #[.slice (some ⟨g, o, none⟩) dLen dCap, .slice (some a) sLen sCap]).run P w =
      .ok (goInt (Nat.min sLen dLen)) (w.setRow g (splice cur.toList o cs).toArray) := by
  have hl := run_loadCells_list (P := P) w a cs hsrc
  have hst := run_storeCells_at P g o t cs 0 cur w hg (by simpa using hfit) h1
  cases hq : P.info? elem with
  | none => simp [hq] at hs
  | some i =>
    have hi : i.size = k := by simpa [hq] using hs
    simp [Builtin.copy_, run_underlying hu, Builtin.lenOf, Builtin.firstCells, sizeOf, typeInfo, hq, hi, ← hn, hl, hst, splice]
theorem grown_setRow (w : World) (g : Nat) (cs : Array Value) : w.grownBy (w.setRow g cs) (some g) :=
  ⟨rfl, rfl, rfl, by simp [World.setRow], fun k _ hk => setRow_other w g k cs (fun e => hk (by rw [e]))⟩
theorem step_copy_K {P : Program} {ops : Array Oper} {o : Oper} {a : Act} {w : World} {K : Act → World → Prop} {Q : Exit → Act → World → Prop} {E : Prop} (hgd : o.guard = none) (d s : Operand) (dT sT : TypeId)
    (ho : o.op = .call { callee := .builtin .copy, args := #[d, s], argTypes := #[dT, sT] }) (elem : TypeId) (k : Nat) (hu : P.underlying dT = some (.slice elem)) (hsz : (P.info? elem).map (·.size) = some k)
    (g off dLen dCap : Nat) (ad : Addr) (sLen sCap : Nat) (hd : a.eval d = .slice (some ⟨g, off, none⟩) dLen dCap) (hs : a.eval s = .slice (some ad) sLen sCap)
    (cur : List Value) (t : TypeId) (hg : w.heap[g]? = some (.cells cur.toArray t (0, 0))) (cs : List Value) (q : Nat) (hq : Nat.min sLen dLen = q) (hn : cs.length = q * k)
    (hsrc : ∀ j v, cs[j]? = some v → w.cell? (ad.add j) = some v) (hfit : off + cs.length ≤ cur.length) (h1 : ∀ v ∈ cs, v.oneCell' = true)
    (h : ∀ w', Hid (w'.heap[g]? = some (.cells (splice cur off cs).toArray t (0, 0))) → Hid (w.grownBy w' (some g)) → K (a.put o.dst (goInt q)) w') :
    if Region.wanted o (yielded ops a.tmps) = true then Oper.wp P o a w K Q else E := by
  have hw : Region.wanted o (yielded ops a.tmps) = true := by simp [Region.wanted, hgd]
  rw [if_pos hw]
  have hrun := run_copy_rowK (P := P) w dT sT o.type elem k g off dLen dCap ad sLen sCap cur.toArray t cs hu hsz hg (by rw [hq]; exact hn) hsrc (by simpa using hfit) h1
  rw [hq] at hrun
  unfold Oper.wp
  simp [execOp, ho, resolve, invoke, builtin, hd, hs, hrun, Result.andThen]
  exact h _ (show _ = _ by simpa using setRow_heap w g _ _ t _ hg) (grown_setRow w g _)
theorem wpList_copy_K {P : Program} {w : World} {ops : Array Oper} {rest : List Oper} {o : Oper} {a : Act} {Q : Exit → Act → World → Prop} (hgd : o.guard = none) (d s : Operand) (dT sT : TypeId)
    (ho : o.op = .call { callee := .builtin .copy, args := #[d, s], argTypes := #[dT, sT] }) (elem : TypeId) (k : Nat) (hu : P.underlying dT = some (.slice elem)) (hsz : (P.info? elem).map (·.size) = some k)
    (g off dLen dCap : Nat) (ad : Addr) (sLen sCap : Nat) (hd : a.eval d = .slice (some ⟨g, off, none⟩) dLen dCap) (hs : a.eval s = .slice (some ad) sLen sCap)
    (cur : List Value) (t : TypeId) (hg : w.heap[g]? = some (.cells cur.toArray t (0, 0))) (cs : List Value) (q : Nat) (hq : Nat.min sLen dLen = q) (hn : cs.length = q * k)
    (hsrc : ∀ j v, cs[j]? = some v → w.cell? (ad.add j) = some v) (hfit : off + cs.length ≤ cur.length) (h1 : ∀ v ∈ cs, v.oneCell' = true)
    (h : ∀ w', Hid (w'.heap[g]? = some (.cells (splice cur off cs).toArray t (0, 0))) → Hid (w.grownBy w' (some g)) → wpList P ops Q rest (a.put o.dst (goInt q)) w') :
    wpList P ops Q (o :: rest) a w := by
  refine wpList_plain hgd fun K hK => ?_
  have hrun := run_copy_rowK (P := P) w dT sT o.type elem k g off dLen dCap ad sLen sCap cur.toArray t cs hu hsz hg (by rw [hq]; exact hn) hsrc (by simpa using hfit) h1
  rw [hq] at hrun
  unfold Oper.wp
  simp [execOp, ho, resolve, invoke, builtin, hd, hs, hrun, Result.andThen]
  exact hK _ _ (h _ (show _ = _ by simpa using setRow_heap w g _ _ t _ hg) (grown_setRow w g _))
theorem grown_trans {w w1 w2 : World} {row : Option Nat} (h : w.grownBy w1 row) (g : w1.grownBy w2 row) : w.grownBy w2 row :=
  ⟨g.os.trans h.os, g.tape.trans h.tape, g.output.trans h.output, Nat.le_trans h.size g.size, fun k hk hn => (g.block k (Nat.lt_of_lt_of_le hk h.size) hn).trans (h.block k hk hn)⟩
theorem grown_none {w w' : World} (h : w.grownBy w' none) (row : Option Nat) : w.grownBy w' row := ⟨h.os, h.tape, h.output, h.size, fun k hk _ => h.block k hk (by simp)⟩
/-- the same, where the row that turned is new -/
theorem grown_new {w w1 w2 : World} {g : Nat} {row : Option Nat} (h : w.grownBy w1 row) (g2 : w1.grownBy w2 (some g)) (hg : w.heap.size ≤ g) : w.grownBy w2 row :=
  ⟨g2.os.trans h.os, g2.tape.trans h.tape, g2.output.trans h.output, Nat.le_trans h.size g2.size, fun k hk hn => (g2.block k (Nat.lt_of_lt_of_le hk h.size) (by simp; omega)).trans (h.block k hk hn)⟩
/-- in place: what stands behind i moves up, then the new one goes in -/
theorem splice_in {α : Type} (L xs x : List α) (i k n : Nat) (hx : x.length = k) (hi : i ≤ n) (hxs : xs.length = n * k) (hL : (n + 1) * k ≤ L.length) (hp : L.take (n * k) = xs) :
    (splice (splice L ((i + 1) * k) (xs.drop (i * k))) (i * k) x).take ((n + 1) * k) = xs.take (i * k) ++ x ++ xs.drop (i * k) := by
  have hik : i * k ≤ n * k := Nat.mul_le_mul_right _ hi
  have e1 : (i + 1) * k = i * k + k := Nat.succ_mul i k
  have e2 : (n + 1) * k = n * k + k := Nat.succ_mul n k
  rw [e1, e2]
  rw [e2] at hL
  generalize i * k = p at *
  generalize n * k = q at *
  have hd : (xs.drop p).length = q - p := by rw [List.length_drop, hxs]
  unfold splice
  have hA : (L.take (p + k)).length = p + k := by rw [List.length_take]; omega
  have t1 : (L.take (p + k) ++ (xs.drop p ++ L.drop (p + k + (xs.drop p).length))).take p = xs.take p := by
    rw [List.take_append_of_le_length (by omega), List.take_take, ← hp, List.take_take]
    congr 1; omega
  have t2 : (L.take (p + k) ++ (xs.drop p ++ L.drop (p + k + (xs.drop p).length))).drop (p + x.length) = xs.drop p ++ L.drop (p + k + (xs.drop p).length) := by
    rw [hx, List.drop_append, hA, Nat.sub_self, List.drop_of_length_le (by omega)]; simp
  rw [t1, t2]
  have l1 : (xs.take p).length = p := by rw [List.length_take]; omega
  rw [List.append_assoc, List.take_append, List.take_of_length_le (i := q + k) (l := xs.take p) (by omega)]
  congr 1
  rw [List.take_append, List.take_of_length_le (l := x) (by omega)]
  congr 1
  rw [List.take_append_of_le_length (by omega), List.take_of_length_le (by omega)]
/-- a new row: the new one goes in, then what stood behind i -/
theorem splice_new {α : Type} (L xs x : List α) (i k n : Nat) (hx : x.length = k) (hi : i ≤ n) (hxs : xs.length = n * k) (hL : (n + 1) * k ≤ L.length) (hp : L.take (i * k) = xs.take (i * k)) :
    (splice (splice L (i * k) x) ((i + 1) * k) (xs.drop (i * k))).take ((n + 1) * k) = xs.take (i * k) ++ x ++ xs.drop (i * k) := by
  have hik : i * k ≤ n * k := Nat.mul_le_mul_right _ hi
  have e1 : (i + 1) * k = i * k + k := Nat.succ_mul i k
  have e2 : (n + 1) * k = n * k + k := Nat.succ_mul n k
  rw [e1, e2]
  rw [e2] at hL
  generalize i * k = p at *
  generalize n * k = q at *
  have hd : (xs.drop p).length = q - p := by rw [List.length_drop, hxs]
  unfold splice
  have l1 : (xs.take p).length = p := by rw [List.length_take]; omega
  rw [hp]
  have t1 : (xs.take p ++ (x ++ L.drop (p + x.length))).take (p + k) = xs.take p ++ x := by
    rw [← List.append_assoc, List.take_append_of_le_length (by rw [List.length_append]; omega), List.take_of_length_le (by rw [List.length_append]; omega)]
  rw [t1, ← List.append_assoc, List.take_append_of_le_length (by rw [List.length_append, List.length_append]; omega), List.take_of_length_le (by rw [List.length_append, List.length_append]; omega)]
end Go.Mem
