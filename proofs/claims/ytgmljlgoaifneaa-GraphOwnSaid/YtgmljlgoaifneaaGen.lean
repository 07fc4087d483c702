/- Words for memory: a slice of integers told by a function (nil let in), kept over what the call makes; such an argument, opened. Plain Lean over any program. -/
import Derived.Test.YtgmljlgoaifneaaOpn
namespace Go.Mem
open Go.RowKit Go.Deep Go.ChangeShapes Go.WideShapes

/-- the slice value (A, n) of integers of kind k reads as f, and lies below block B -/
def IRow (k : IntKind) (w : World) (B : Nat) (A : Option Addr) (n : Nat) (f : Nat → Int) : Prop :=
  0 < n → ∃ b off, A = some ⟨b, off, none⟩ ∧ b < B ∧ ∀ i, i < n → w.cell? ⟨b, off + i, none⟩ = some (.int k (f i))
section
variable {w w' : World} {B B' n : Nat} {A : Option Addr} {f : Nat → Int} {k : IntKind}
theorem IRow.keep (h : IRow k w B A n f) (hk : ∀ p : Addr, p.block < B → w'.cell? p = w.cell? p) : IRow k w' B A n f := fun hn => by
  obtain ⟨b, off, e, hb, hc⟩ := h hn
  exact ⟨b, off, e, hb, fun i hi => (hk _ hb).trans (hc i hi)⟩
theorem IRow.more (h : IRow k w B A n f) (hB : B ≤ B') : IRow k w B' A n f := fun hn => by
  obtain ⟨b, off, e, hb, hc⟩ := h hn
  exact ⟨b, off, e, by omega, hc⟩
theorem IRow.below (h : IRow k w B A n f) (hb : Below B w w') : IRow k w' B A n f := h.keep fun _ hp => hb.cell hp
theorem IRow.drewN (h : IRow k w B A n f) (q : Nat) : IRow k (w.drewN q) B A n f := h
theorem IRow.alloc (h : IRow k w B A n f) (hB : B ≤ w.heap.size) (o : Obj) : IRow k (w.alloc o) B A n f := h.keep fun p hp => World.cell?_alloc_lt w o p (by omega)
end
section
variable {H : Type} {enc : TypeId × Value → H} {P : Program} {w : World}
theorem trod_intk {e : TypeId} {k : IntKind} {n : Nat} {v : Value} {x : DataW H × List MemPlace} {base : Nat} {sp : Nat → Bool} {held : Bool} (he : P.underlying e = some (.int k)) (h : DataW.trod enc P w base sp held n e [v] = some x) : ∃ b, v = .int k b ∧ (Lit.int k b).wf = true := by
  cases n with
  | zero => simp [DataW.trod] at h
  | succ n =>
    simp only [DataW.trod, he] at h
    cases v <;> simp at h
    rename_i k' b
    obtain ⟨⟨rfl, h2⟩, _⟩ := h
    exact ⟨b, rfl, h2⟩
/-- A SLICE OF INTEGERS -/
theorem open_intsF {t e : TypeId} {k : IntKind} {A : Option Addr} {len cap : Nat} {d : DataW H} {ps : List MemPlace} (ht : P.underlying t = some (.slice e)) (he : P.underlying e = some (.int k)) (hc : P.cellsOf e = 1)
    (h : DataW.Trod enc P w 0 (fun _ => true) true t (.slice A len cap) d ps) :
    ∃ f, IRow k w w.heap.size A len f ∧ (∀ i, i < len → (Lit.int k (f i)).wf = true) ∧ len ≤ cap ∧ ((d = .nil ∧ len = 0 ∧ cap = 0) ∨ ∃ el sp, d = .slice el sp ∧ el.length + sp.length = cap) := by
  obtain ⟨fuel, hf⟩ := h
  rcases open_slice1 ht hc hf with ⟨hcs, hx⟩ | ⟨a, len', cap', m, n, V, D, Pl, hcs, _, hl, hm, hmm, hx, hV⟩
  · simp [Value.cells] at hcs
    obtain ⟨rfl, rfl, rfl⟩ := hcs
    exact ⟨fun _ => 0, fun h => absurd h (by omega), fun i hi => absurd hi (by omega), Nat.le_refl _, .inl ⟨by injection hx, rfl, rfl⟩⟩
  · simp [Value.cells] at hcs
    obtain ⟨rfl, rfl, rfl⟩ := hcs
    simp only [if_true] at hmm
    subst hmm
    have hb : ∀ i, i < m → ∃ b, V i = .int k b ∧ (Lit.int k b).wf = true := fun i hi => trod_intk he (hV i hi).2
    obtain ⟨f, hf2⟩ : ∃ f : Nat → Int, ∀ i, i < m → V i = .int k (f i) ∧ (Lit.int k (f i)).wf = true := ⟨fun i => if h : i < m then (hb i h).choose else 0, fun i hi => by
      simp only [dif_pos hi]; exact (hb i hi).choose_spec⟩
    refine ⟨f, fun hn => ?_, fun i hi => (hf2 i (by omega)).2, hl, .inr ⟨_, _, by injection hx, by simp; omega⟩⟩
    obtain ⟨b, off, spot⟩ := a
    have h0 := (hV 0 (by omega)).1
    have hspot : spot = none := by
      have := World.cell?_spot h0
      simpa [Addr.add] using this
    subst hspot
    refine ⟨b, off, rfl, ?_, ?_⟩
    · have := World.block_lt_of_cell? w _ h0
      simpa [Addr.add] using this
    · intro i hi
      have h1 := (hV i (by omega)).1
      rw [addAt, (hf2 i (by omega)).1] at h1
      exact h1
end
/-- what may be said of a range's cells at one place -/
theorem range_get {α : Type} (g : Nat → α) {n i : Nat} (h : i < n) : ((List.range n).map g)[i]? = some (g i) := by
  rw [List.getElem?_map, List.getElem?_range h]; rfl
theorem range_snoc {α : Type} (g : Nat → α) (n : Nat) : (List.range n).map g ++ [g n] = (List.range (n + 1)).map g := by
  rw [List.range_succ, List.map_append]; rfl
end Go.Mem
namespace Go.Mem
open Go.RowKit
section
variable {P : Program}
/-- append(v, x): x lies in a new block of its own; v is a row of the call's own -/
theorem wpList_append_one {w0 : World} {ops : Array Oper} {rest : List Oper} {o : Oper} {a : Act} {Q : Exit → Act → World → Prop} (hgd : o.guard = none) (s y : Operand) (t : TypeId)
    (ho : o.op = .call { callee := .builtin .append, args := #[s, y], argTypes := #[t, t] })
    (base : Nat) (e : TypeId) (i : TypeInfo) (z : Value) (size bytes : Nat) (ht : P.underlying t = some (.slice e)) (hi : P.info? e = some i) (hz : i.zero = some z)
    (hsize : i.size = size) (hby : i.bytes = bytes) (hzs : z.cells.size = size) (hsz : 0 < size) (hb0 : 0 < bytes)
    (v : Value) (n : Nat) (xs : List Value) (hs : a.eval s = v) (hown : w0.ownsRow base e size v n xs) (cs : List Value) (hcs : cs.length = size) (h1 : ∀ u ∈ cs, u.oneCell' = true)
    (e' : TypeId) (c : Nat) (hy : a.eval y = .slice (some ⟨w0.heap.size, 0, none⟩) 1 c) (hbytes : (n + 1) * bytes ≤ 140737488355328) (hbase : base ≤ w0.heap.size)
    (h : ∀ v' w', w'.ownsRow base e size v' (n + 1) (xs ++ cs) → (∀ B b, Below B b w0 → B ≤ base → Below B b w') → wpList P ops Q rest (a.put o.dst v') w') :
    wpList P ops Q (o :: rest) a (w0.alloc (.cells cs.toArray e')) := by
  have h63 : n + 1 ≤ maxLen := by
    have := Nat.le_trans (Nat.le_mul_of_pos_right (n + 1) hb0) hbytes
    simp only [maxLen]; omega
  refine wpList_append_own _ hgd s y t ho base e i z size bytes ht hi hz hsize hby hzs hsz v n xs hs (hown.alloc _) ⟨w0.heap.size, 0, none⟩ 1 c cs hy (by rw [hcs]; omega) ?_ h1 h63 hbytes (by simp; omega) ?_
  · intro j u hu
    rw [addAt, Nat.zero_add, cell_of_row (w0.alloc (.cells cs.toArray e')) w0.heap.size j cs.toArray e' (0, 0) (heap_alloc_new w0 _)]
    simpa using hu
  · intro v' w' hown' hg _
    refine h v' w' hown' fun B b hb hB => ?_
    have hb2 := hb.alloc (by have := hb.size; omega) (.cells cs.toArray e')
    exact hb2.grown hg (by simp; omega) fun k hk => Nat.le_trans hB (own_base hown k hk)
end
end Go.Mem
