/- Maps that the call makes itself, known entry by entry: what a look-up and a new entry do, for keys that are strings or integers. Plain Lean over any program. -/
import Derived.WalkKit
import Derived.WalkLawsBesides
import Derived.ChangeMaps4
namespace Go.Mem
open Go.RowKit Go.Instr
section
variable {P : Program} {w : World}
theorem run_checkKey_str {k : TypeId} (hk : P.underlying k = some .string) (emp : Bool) (n : Nat) (s : ByteArray) : (checkKey emp (n + 1) k (.string s)).run P w = .ok () w := by
  simp [checkKey, run_underlying hk]
theorem run_checkKey_int {k : TypeId} {q : IntKind} (hk : P.underlying k = some (.int q)) (emp : Bool) (n : Nat) (s : Int) : (checkKey emp (n + 1) k (.int q s)).run P w = .ok () w := by
  simp [checkKey, run_underlying hk]
theorem run_findKey {k : TypeId} {d : TypeDesc} {key : Value} {es : List MapEntry} {r : Option (Nat × Value)} (hk : P.underlying k = some d) (hf : findNow d key es 0 = some r) : (findKey k key es).run P w = .ok r w := by
  simp [findKey, run_underlying hk, hf]
/-- m[k], k not there or there -/
theorem run_lookup_known {t k e : TypeId} {d : TypeDesc} {b c : Nat} {es : Array MapEntry} {key : Value} {z : Value} {r : Option (Nat × Value)} (ht : P.underlying t = some (.map k e)) (hk : P.underlying k = some d)
    (hb : w.heap[b]? = some (.map es c)) (hck : (checkKey es.isEmpty 10000 k key).run P w = .ok () w) (hz : (zeroValue e).run P w = .ok z w) (hf : findNow d key es.toList 0 = some r) :
    (Instr.lookup t (.map (some b)) key false).run P w = .ok (match (generalizing := false) r with | some (_, v) => v | none => z) w := by
  have h1 := run_findKey (w := w) hk hf
  unfold Instr.lookup
  generalize 10000 = N at *
  cases r with
  | none => simp [run_underlying ht, MapKept.run_getObj_map hb, hck, h1, hz, Result.andThen]
  | some p => simp [run_underlying ht, MapKept.run_getObj_map hb, hck, h1, Result.andThen]
theorem run_lookup_known_ok {t k e : TypeId} {d : TypeDesc} {b c : Nat} {es : Array MapEntry} {key : Value} {z : Value} {r : Option (Nat × Value)} (ht : P.underlying t = some (.map k e)) (hk : P.underlying k = some d)
    (hb : w.heap[b]? = some (.map es c)) (hck : (checkKey es.isEmpty 10000 k key).run P w = .ok () w) (hz : (zeroValue e).run P w = .ok z w) (hf : findNow d key es.toList 0 = some r) :
    (Instr.lookup t (.map (some b)) key true).run P w = .ok (match (generalizing := false) r with | some (_, v) => .tuple #[v, .bool true] | none => .tuple #[z, .bool false]) w := by
  have h1 := run_findKey (w := w) hk hf
  unfold Instr.lookup
  generalize 10000 = N at *
  cases r with
  | none => simp [run_underlying ht, MapKept.run_getObj_map hb, hck, h1, hz, Result.andThen]
  | some p => simp [run_underlying ht, MapKept.run_getObj_map hb, hck, h1, Result.andThen]
/-- the world with another map in block b -/
def setMap (w : World) (b : Nat) (o : Obj) : World := { w with heap := w.heap.setIfInBounds b o }
/-- m[k] = v, k not there -/
theorem run_insert_known {t k e : TypeId} {d : TypeDesc} {b c : Nat} {es : Array MapEntry} {key v : Value} (ht : P.underlying t = some (.map k e)) (hk : P.underlying k = some d)
    (hb : w.heap[b]? = some (.map es c)) (hck : (checkKey false 10000 k key).run P w = .ok () w) (hf : findNow d key es.toList 0 = some none) :
    (Instr.mapUpdate t (.map (some b)) key v).run P w = .ok () (setMap w b (.map (es.push { key := key, val := v, born := c }) (c + 1))) := by
  have h1 := run_findKey (w := w) hk hf
  unfold Instr.mapUpdate setMap
  generalize 10000 = N at *
  simp [run_underlying ht, MapKept.run_getObj_map hb, MapKept.run_setObj_map _ hb, hck, h1, Result.andThen]
theorem push_set {α : Type} (a : Array α) (x y : α) : (a.push x).setIfInBounds a.size y = a.push y := by
  apply Array.ext
  · simp
  · intro i h1 h2
    rw [Array.getElem_setIfInBounds (by simpa using h1)]
    by_cases h : a.size = i
    · rw [if_pos h]; subst h; simp
    · rw [if_neg h]
      simp at h1
      have h3 : i < a.size := by omega
      rw [Array.getElem_push_lt h3, Array.getElem_push_lt h3]
theorem setMap_alloc (w : World) (o o' : Obj) : setMap (w.alloc o) w.heap.size o' = w.alloc o' := by
  show ({ w with heap := (w.heap.push o).setIfInBounds w.heap.size o' } : World) = { w with heap := w.heap.push o' }
  rw [push_set]
end
end Go.Mem
