/- Arguments that are graphs, changes, lists of changes: opened; what the row's reading of them tells of memory. Conditions: as each theorem's hypotheses say. -/
import Derived.Test.YtgmljlgoaifneaaGpl
import Derived.Test.YtgmljlgoaifneaaOpn
import Derived.Lib.SmallJoins
import Derived.Test.YtgmljlgoaifneaaChecked
namespace Go.Mem
open Go.RowKit Go.Deep Go.ChangeShapes Go.WideShapes Go.Joins Flt
set_option linter.unusedVariables false
section
variable {H : Type} {enc : TypeId × Value → H} {P : Program} {w : World} {base : Nat} {spare : Nat → Bool} {held : Bool}
theorem trod_int1 {e : TypeId} {k : IntKind} {n : Nat} {v : Value} {x : DataW H × List MemPlace} (he : P.underlying e = some (.int k)) (h : DataW.trod enc P w base spare held n e [v] = some x) : ∃ b, v = .int k b ∧ (Lit.int k b).wf = true := by
  cases n with
  | zero => simp [DataW.trod] at h
  | succ n =>
    simp only [DataW.trod, he] at h
    cases v <;> simp at h
    rename_i k' b
    obtain ⟨⟨rfl, h2⟩, _⟩ := h
    exact ⟨b, rfl, h2⟩
theorem trod_bool1 {e : TypeId} {n : Nat} {v : Value} {x : DataW H × List MemPlace} (he : P.underlying e = some .bool) (h : DataW.trod enc P w base spare held n e [v] = some x) : ∃ b, v = .bool b := by
  cases n with
  | zero => simp [DataW.trod] at h
  | succ n =>
    simp only [DataW.trod, he] at h
    cases v <;> simp at h
    rename_i b
    exact ⟨b, rfl⟩
theorem trod_flt1 {e : TypeId} {n : Nat} {v : Value} {x : DataW H × List MemPlace} (he : P.underlying e = some (.float .f64)) (h : DataW.trod enc P w base spare held n e [v] = some x) : ∃ b, v = .float .f64 b ∧ b < 18446744073709551616 := by
  cases n with
  | zero => simp [DataW.trod] at h
  | succ n =>
    simp only [DataW.trod, he] at h
    cases v <;> simp at h
    rename_i k b
    exact ⟨b, by rw [h.1.1], by simpa [Lit.wf, h.1.1] using h.1.2⟩
/-- a struct's cells, of fields of one cell each -/
theorem cells_agg {t : TypeId} {fs : Array Field} {n : Nat} {cs : List Value} {x : DataW H × List MemPlace} (hs : P.underlying t = some (.struct fs)) (hone : oneCellFields P fs = true) (hC : P.cellsOf t = fs.size)
    (h : DataW.trod enc P w base spare held n t cs = some x) : cs.length = fs.size ∧ ∃ m, ∀ (i : Nat) (f : Field), fs[i]? = some f → ∃ v y, cs[i]? = some v ∧ DataW.trod enc P w base spare held m f.type [v] = some y := by
  obtain ⟨xs, m, _, hx, hl, hlen, hg⟩ := DataW.trod_struct hs h
  refine ⟨by rw [hl, hC], m, fun i f hf => ?_⟩
  obtain ⟨o, k⟩ := hone_of hone i f hf
  have hi : i < fs.size := by
    rcases Nat.lt_or_ge i fs.size with h | h
    · exact h
    · rw [Array.getElem?_eq_none h] at hf; cases hf
  have h1 := hg i f hf
  rw [o, k, List.getElem?_eq_getElem (by omega)] at h1
  have hic : i < cs.length := by rw [hl, hC]; exact hi
  rw [List.drop_eq_getElem_cons hic] at h1
  exact ⟨cs[i], _, List.getElem?_eq_getElem hic, h1⟩
/-- a slice of such -/
theorem open_row {α : Type} (z : α) (f : α → List Value) (k : Nat) (good : α → Prop) {t e : TypeId} {A : Option Addr} {len cap fuel : Nat} {x : DataW H × List MemPlace} (ht : P.underlying t = some (.slice e)) (hc : P.cellsOf e = k) (hk : ∀ x, (f x).length = k) (hk0 : 0 < k)
    (hone : ∀ n cs x, DataW.trod enc P w 0 (fun _ => true) true n e cs = some x → ∃ a, cs = f a ∧ good a) (h : DataW.trod enc P w 0 (fun _ => true) true fuel t [.slice A len cap] = some x) :
    ∃ l : List α, l.length = len ∧ Row w w.heap.size k A len (l.flatMap f) ∧ (∀ x ∈ l, good x) ∧ len ≤ cap ∧ ((x.1 = .nil ∧ len = 0 ∧ cap = 0) ∨ ∃ el sp, x.1 = .slice el sp ∧ el.length + sp.length = cap) := by
  rcases open_slice ht h with ⟨hcs, hx⟩ | ⟨a, len', cap', m, n, D, Pl, hcs, _, hl, _, hmm, hx, hV⟩
  · simp at hcs
    obtain ⟨rfl, rfl, rfl⟩ := hcs
    exact ⟨[], rfl, ⟨by simp, fun h => absurd h (by omega)⟩, by simp, Nat.le_refl _, .inl ⟨by rw [hx], rfl, rfl⟩⟩
  · simp at hcs
    obtain ⟨rfl, rfl, rfl⟩ := hcs
    simp only [if_true] at hmm
    subst hmm
    rw [hc] at hV
    have hb : ∀ i, i < m → ∃ a', w.cells? 0 (a.add (i * k)) k = some (f a') ∧ good a' := fun i hi => by
      obtain ⟨cs', h1, h2⟩ := hV i hi
      obtain ⟨a', e, g⟩ := hone _ _ _ h2
      exact ⟨a', by rw [← e]; exact h1, g⟩
    obtain ⟨g, hg⟩ : ∃ g : Nat → α, ∀ i, i < m → w.cells? 0 (a.add (i * k)) k = some (f (g i)) ∧ good (g i) := ⟨fun i => if h : i < m then (hb i h).choose else z, fun i hi => by
      simp only [dif_pos hi]; exact (hb i hi).choose_spec⟩
    refine ⟨(List.range len).map g, by simp, ⟨by rw [flat_len f k hk]; simp, fun hn => ?_⟩, ?_, hl, .inr ⟨_, _, by rw [hx], by simp; omega⟩⟩
    · obtain ⟨b, off, spot⟩ := a
      have h0 := (World.cells?_some (hg 0 (by omega)).1).2.2 0 hk0
      have hf0 : (f (g 0))[0]? = some ((f (g 0))[0]'(by rw [hk]; exact hk0)) := List.getElem?_eq_getElem _
      rw [hf0] at h0
      have hspot : spot = none := by
        have := World.cell?_spot h0
        simpa [Addr.add] using this
      subst hspot
      refine ⟨b, off, rfl, ?_, ?_⟩
      · have := World.block_lt_of_cell? w _ h0
        simpa [Addr.add] using this
      · intro j u hj
        have hjl : j < len * k := by
          rcases Nat.lt_or_ge j (((List.range len).map g).flatMap f).length with h | h
          · rw [flat_len f k hk] at h; simpa using h
          · rw [List.getElem?_eq_none h] at hj; cases hj
        have hr : j % k < k := Nat.mod_lt _ hk0
        have hq : j / k < len := (Nat.div_lt_iff_lt_mul hk0).2 hjl
        have hjj : j / k * k + j % k = j := by rw [Nat.mul_comm]; exact Nat.div_add_mod j k
        have h1 := (World.cells?_some (hg (j / k) (by omega)).1).2.2 (j % k) hr
        rw [addAt, addAt, Nat.add_assoc, hjj] at h1
        rw [h1]
        have h2 := flat_get f k hk ((List.range len).map g) (j / k) (j % k) hr
        rw [hjj, hj] at h2
        rw [h2, List.getElem?_map, List.getElem?_range hq]
        rfl
    · intro x hx
      obtain ⟨i, hi, rfl⟩ := List.mem_map.1 hx
      exact (hg i (by have := List.mem_range.1 hi; omega)).2
/-- the weights within a struct -/
theorem sized_agg {ts : List TypeId} {ds : List (DataW H)} {j : Nat} {t : TypeId} {fs : Array Field} {parts : List (DataW H)} (h : (DataW.weightsEach P ts ds).all (· ≤ reachBytes) = true) (ht : ts[j]? = some t) (hd : ds[j]? = some (.agg parts)) (hu : P.underlying t = some (.struct fs)) :
    (DataW.weightsEach P (fs.toList.map (·.type)) parts).all (· ≤ reachBytes) = true := by
  rw [List.all_eq_true] at h ⊢
  exact fun n hn => h n (DataW.weights_mem_each ht hd n (by simpa [DataW.weights, hu] using hn))
end
end Go.Mem
namespace Go.Proofs.Ytgmljlgoaifneaa
open Go.RowKit Go.Deep Go.ChangeShapes Go.WideShapes Go.Joins Flt Go.Mem
set_option maxRecDepth 100000
section
variable {H : Type} {enc : TypeId × Value → H} {w : World}
theorem open_nd (n : Nat) (cs : List Value) (x : DataW H × List MemPlace) (h : DataW.trod enc Try.prog w 0 (fun _ => true) true n 52 cs = some x) : ∃ a, cs = ndC a ∧ (-9223372036854775808 ≤ a.id ∧ a.id ≤ 9223372036854775807) := by
  obtain ⟨hl, m, hg⟩ := cells_agg Try.underlying52 (by kernel_rfl) (by kernel_rfl) h
  obtain ⟨v0, y0, e0, h0⟩ := hg 0 _ rfl
  obtain ⟨v1, y1, e1, h1⟩ := hg 1 _ rfl
  obtain ⟨v2, y2, e2, h2⟩ := hg 2 _ rfl
  obtain ⟨i, rfl, wi⟩ := trod_int1 Try.underlying3 h0
  obtain ⟨b, rfl⟩ := trod_bool1 Try.underlying4 h1
  obtain ⟨c, rfl⟩ := trod_bool1 Try.underlying4 h2
  match cs, hl with
  | [c0, c1, c2], _ =>
    simp at e0 e1 e2
    subst e0 e1 e2
    exact ⟨⟨i, b, c⟩, rfl, bounds_i64 wi⟩
theorem open_lk (n : Nat) (cs : List Value) (x : DataW H × List MemPlace) (h : DataW.trod enc Try.prog w 0 (fun _ => true) true n 54 cs = some x) : ∃ a, cs = lkC a ∧ (a.w < 18446744073709551616 ∧ (-9223372036854775808 ≤ a.a ∧ a.a ≤ 9223372036854775807) ∧ (-9223372036854775808 ≤ a.b ∧ a.b ≤ 9223372036854775807)) := by
  obtain ⟨hl, m, hg⟩ := cells_agg Try.underlying54 (by kernel_rfl) (by kernel_rfl) h
  obtain ⟨v0, y0, e0, h0⟩ := hg 0 _ rfl
  obtain ⟨v1, y1, e1, h1⟩ := hg 1 _ rfl
  obtain ⟨v2, y2, e2, h2⟩ := hg 2 _ rfl
  obtain ⟨v3, y3, e3, h3⟩ := hg 3 _ rfl
  obtain ⟨i, rfl, wi⟩ := trod_int1 Try.underlying3 h0
  obtain ⟨j, rfl, wj⟩ := trod_int1 Try.underlying3 h1
  obtain ⟨f, rfl, wf⟩ := trod_flt1 Try.underlying36 h2
  obtain ⟨c, rfl⟩ := trod_bool1 Try.underlying4 h3
  match cs, hl with
  | [c0, c1, c2, c3], _ =>
    simp at e0 e1 e2 e3
    subst e0 e1 e2 e3
    exact ⟨⟨i, j, f, c⟩, rfl, wf, bounds_i64 wi, bounds_i64 wj⟩
/-- a change's parts: kind, a, b, weight -/
structure Cg where make ::
  k : Int
  a : Int
  b : Int
  w : Nat
def cgC (x : Cg) : List Value := [.int .i64 x.k, .int .i64 x.a, .int .i64 x.b, .float .f64 x.w]
def cgOk (a : Cg) : Prop := a.w < 18446744073709551616 ∧ (-9223372036854775808 ≤ a.k ∧ a.k ≤ 9223372036854775807) ∧ (-9223372036854775808 ≤ a.a ∧ a.a ≤ 9223372036854775807) ∧ (-9223372036854775808 ≤ a.b ∧ a.b ≤ 9223372036854775807)
theorem open_cg (n : Nat) (cs : List Value) (x : DataW H × List MemPlace) (h : DataW.trod enc Try.prog w 0 (fun _ => true) true n 38 cs = some x) : ∃ a, cs = cgC a ∧ cgOk a := by
  obtain ⟨hl, m, hg⟩ := cells_agg Try.underlying38 (by kernel_rfl) (by kernel_rfl) h
  obtain ⟨v0, y0, e0, h0⟩ := hg 0 _ rfl
  obtain ⟨v1, y1, e1, h1⟩ := hg 1 _ rfl
  obtain ⟨v2, y2, e2, h2⟩ := hg 2 _ rfl
  obtain ⟨v3, y3, e3, h3⟩ := hg 3 _ rfl
  obtain ⟨k, rfl, wk⟩ := trod_int1 Try.underlying3 h0
  obtain ⟨i, rfl, wi⟩ := trod_int1 Try.underlying3 h1
  obtain ⟨j, rfl, wj⟩ := trod_int1 Try.underlying3 h2
  obtain ⟨f, rfl, wf⟩ := trod_flt1 Try.underlying36 h3
  match cs, hl with
  | [c0, c1, c2, c3], _ =>
    simp at e0 e1 e2 e3
    subst e0 e1 e2 e3
    exact ⟨⟨k, i, j, f⟩, rfl, wf, bounds_i64 wk, bounds_i64 wi, bounds_i64 wj⟩
theorem open_change {v : Value} {d : DataW H} {p : List MemPlace} {b0 : Nat} (hv : Value.okWide Try.prog w .any b0 38 v) (h : DataW.Trod enc Try.prog w 0 (fun _ => true) true 38 v d p) :
    ∃ a, v = .agg #[.int .i64 a.k, .int .i64 a.a, .int .i64 a.b, .float .f64 a.w] ∧ cgOk a := by
  obtain ⟨⟨cs⟩, rfl, hsz⟩ := okWide_struct Try.underlying38 hv
  obtain ⟨fuel, hf⟩ := h
  obtain ⟨a, e, g⟩ := open_cg _ _ _ hf
  refine ⟨a, ?_, g⟩
  have e' : cs = cgC a := e
  rw [e']; rfl
/-- A GRAPH -/
theorem open_graph {ts : List TypeId} {ds : List (DataW H)} {j : Nat} {v : Value} {d : DataW H} {p : List MemPlace} {b0 : Nat} (hv : Value.okWide Try.prog w .any b0 25 v) (h : DataW.Trod enc Try.prog w 0 (fun _ => true) true 25 v d p)
    (hsz : (DataW.weightsEach Try.prog ts ds).all (· ≤ reachBytes) = true) (ht : ts[j]? = some 25) (hd : ds[j]? = some d) :
    ∃ A n c A2 m c2 ns ls, v = .agg #[.slice A n c, .slice A2 m c2] ∧ GN w w.heap.size A n ns ∧ GL w w.heap.size A2 m ls ∧ (∀ i, i < m → (lkA ls i).w < 18446744073709551616) ∧ n * 16 ≤ 140737488355328 ∧ m * 32 ≤ 140737488355328 ∧
      (∀ x ∈ ns, -9223372036854775808 ≤ x.id ∧ x.id ≤ 9223372036854775807) ∧ (∀ a ∈ ls, a.w < 18446744073709551616 ∧ (-9223372036854775808 ≤ a.a ∧ a.a ≤ 9223372036854775807) ∧ (-9223372036854775808 ≤ a.b ∧ a.b ≤ 9223372036854775807)) := by
  obtain ⟨⟨cs⟩, rfl, hcz⟩ := okWide_struct Try.underlying25 hv
  obtain ⟨fuel, hf⟩ := h
  obtain ⟨hl, m, hg⟩ := cells_agg Try.underlying25 (by kernel_rfl) (by kernel_rfl) hf
  obtain ⟨xs, m', _, hx, _, hlen, hgx⟩ := DataW.trod_struct Try.underlying25 hf
  have hl' : cs.length = 2 := hl
  match cs, hl' with
  | [c0, c1], _ =>
    match xs, hlen with
    | [x0, x1], _ =>
      have h0 : DataW.trod enc Try.prog w 0 (fun _ => true) true m' 22 [c0] = some x0 := hgx 0 _ rfl
      have h1 : DataW.trod enc Try.prog w 0 (fun _ => true) true m' 23 [c1] = some x1 := hgx 1 _ rfl
      obtain ⟨A, n, c, rfl⟩ : ∃ A n c, c0 = .slice A n c := by
        rcases open_slice Try.underlying22 h0 with ⟨e, _⟩ | ⟨a, l, k, _, _, _, _, e, _⟩
        · exact ⟨_, _, _, by simpa using e⟩
        · exact ⟨_, _, _, by simpa using e⟩
      obtain ⟨A2, m2, c2, rfl⟩ : ∃ A n c, c1 = .slice A n c := by
        rcases open_slice Try.underlying23 h1 with ⟨e, _⟩ | ⟨a, l, k, _, _, _, _, e, _⟩
        · exact ⟨_, _, _, by simpa using e⟩
        · exact ⟨_, _, _, by simpa using e⟩
      obtain ⟨ns, ln, rn, gn, len, dn⟩ := open_row ⟨0, false, false⟩ ndC 3 _ Try.underlying22 (by kernel_rfl) (fun _ => rfl) (by decide) open_nd h0
      obtain ⟨ls, ll, rl, gl, lel, dl⟩ := open_row ⟨0, 0, 0, false⟩ lkC 4 _ Try.underlying23 (by kernel_rfl) (fun _ => rfl) (by decide) open_lk h1
      have hd' : d = .agg [x0.1, x1.1] := by injection hx
      subst hd'
      have hz := sized_agg hsz ht hd Try.underlying25
      have rc0 := reach_floats (j := 0) hz rfl rfl Try.underlying22 (show Try.prog.bytesOf 52 = 16 by kernel_rfl) dn
      have rc1 := reach_floats (j := 1) hz rfl rfl Try.underlying23 (show Try.prog.bytesOf 54 = 32 by kernel_rfl) dl
      refine ⟨A, n, c, A2, m2, c2, ns, ls, rfl, ⟨ln, rn⟩, ⟨ll, rl⟩, fun i hi => ?_, by omega, by omega, gn, gl⟩
      have := lkA_some (l := ls) (i := i) (by omega)
      rw [List.getElem?_eq_getElem (by omega)] at this
      injection this with e
      rw [← e]
      exact (gl _ (List.getElem_mem _)).1
end
end Go.Proofs.Ytgmljlgoaifneaa
