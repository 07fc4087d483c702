/- A region that draws its order, each operation of which does the same in every world that meets a condition and leaves such a world (calls that make memory, too): one order serves for all. Plain Lean over any program. Conditions: as each theorem's hypotheses say. -/
import Derived.OrdersHeld
import Derived.StillTail
import Derived.Deep.RegionHeld3
namespace Go
set_option linter.unusedVariables false
section
variable {P : Program} {ops : Array Oper} {Q : Exit → Act → World → Prop} {md : Region.Mode} {S : World → Prop}
/-- what came of an operation: v, in a world that meets S -/
def LeavesU (P : Program) (S : World → Prop) (v : Value) : Result Next → Prop
  | .ok (.value u) w => u = v ∧ S w
  | .ok .skip w => undef = v ∧ S w
  | .ok (.enter f args) w => Calls P f args w fun e w' => e = .returned v ∧ S w'
  | _ => False
/-- in state a, in every world that meets S, operation o leaves v in its temporary, and a world that meets S -/
def SteadyU (P : Program) (ops : Array Oper) (S : World → Prop) (o : Oper) (v : Value) (a : Act) : Prop :=
  (Region.wanted o (yielded ops a.tmps) = true ∧ ∀ w, S w → LeavesU P S v ((execOp a.eval o).run P w)) ∨
  (Region.wanted o (yielded ops a.tmps) = false ∧ undef = v)
theorem SteadyU.wpOp {i : Nat} {o : Oper} {v : Value} {a : Act} (hi : ops[i]? = some o) (hy : SteadyU P ops S o v a)
    {K : Act → World → Prop} {w : World} (hS : S w) (h : ∀ w', S w' → K (a.put o.dst v) w') : wpOp P ops Q i K a w := by
  unfold Go.wpOp
  simp only [hi]
  rcases hy with ⟨hw, hv⟩ | ⟨hw, rfl⟩
  · simp only [hw, if_true]
    refine .inl ?_
    have hv := hv w hS
    unfold Oper.wp
    generalize (execOp a.eval o).run P w = r at *
    cases r with
    | ok n w' =>
      cases n <;> simp only [Oper.upon, LeavesU] at hv ⊢
      case value u => obtain ⟨rfl, hs⟩ := hv; exact h _ hs
      case skip => obtain ⟨rfl, hs⟩ := hv; exact h _ hs
      case enter f args => exact hv.mono fun e w'' ⟨he, hs⟩ => by subst he; exact h _ hs
    | halt x w' => exact hv.elim
  · simp only [hw, Bool.false_eq_true, if_false]; exact h _ hS
theorem SteadyU.of_same {o : Oper} {v : Value} {a a' : Act} (hy : SteadyU P ops S o v a) (he : execOp a'.eval o = execOp a.eval o)
    (hw : Region.wanted o (yielded ops a'.tmps) = Region.wanted o (yielded ops a.tmps)) : SteadyU P ops S o v a' := by
  unfold SteadyU at *
  rw [he, hw]
  exact hy
/-- whatever order is picked from here on -/
def wpAnyU (P : Program) (md : Region.Mode) (ops : Array Oper) (Q : Exit → Act → World → Prop) (S : World → Prop) : Nat → Array Bool → Act → Prop
  | 0, listed, a => Region.ready md ops listed = [] ∧ ∀ w, S w → Q .normal a w
  | fuel + 1, listed, a =>
    (Region.ready md ops listed = [] → ∀ w, S w → Q .normal a w) ∧
    ∀ i ∈ Region.ready md ops listed, ∃ o v, ops[i]? = some o ∧ SteadyU P ops S o v a ∧ wpAnyU P md ops Q S fuel (listed.setIfInBounds i true) (a.put o.dst v)
theorem wpAny_of_U : ∀ (fuel : Nat) (listed : Array Bool) (a : Act) (w : World), S w → wpAnyU P md ops Q S fuel listed a → wpAny P md ops Q fuel listed a w
  | 0, _, _, _, hS, h => ⟨h.1, h.2 _ hS⟩
  | fuel + 1, _, _, _, hS, h => ⟨fun h0 => h.1 h0 _ hS, fun i hi => by
      obtain ⟨o, v, ho, hy, hr⟩ := h.2 i hi
      exact hy.wpOp ho hS fun w' hs => wpAny_of_U fuel _ _ w' hs hr⟩
theorem wpAnyU_first {i : Nat} {oi : Oper} {v : Value} (hi : ops[i]? = some oi) (hsel : ∀ (j : Nat) (o : Oper) cs b, ops[j]? = some o → o.op ≠ .select cs b) :
    ∀ (fuel : Nat) (listed : Array Bool) (a : Act),
      (∀ j oj, ops[j]? = some oj → j ≠ i → listed.getD j true = false → (∀ e ∈ oj.after, Region.binds md e = true → e.on ≠ i) → oi.apart ops oj = true) →
      i ∈ Region.ready md ops listed → SteadyU P ops S oi v a →
      wpAnyU P md ops Q S fuel (listed.setIfInBounds i true) (a.put oi.dst v) → wpAnyU P md ops Q S (fuel + 1) listed a := by
  intro fuel
  induction fuel with
  | zero =>
    intro listed a _ hr hy H
    refine ⟨fun h => (by rw [h] at hr; cases hr), fun j hj => ?_⟩
    by_cases hji : j = i
    · subst hji; exact ⟨oi, v, hi, hy, H⟩
    · have := ready_mono hj hji
      rw [H.1] at this
      cases this
  | succ fuel ih =>
    intro listed a hfree hr hy H
    refine ⟨fun h => (by rw [h] at hr; cases hr), fun j hj => ?_⟩
    by_cases hji : j = i
    · subst hji; exact ⟨oi, v, hi, hy, H⟩
    · obtain ⟨oj, u, hoj, hyj, h1⟩ := H.2 j (ready_mono hj hji)
      obtain ⟨hjun, oj', hoj', hall⟩ := mem_ready.1 hj
      rw [hoj] at hoj'
      obtain rfl : oj = oj' := Option.some.inj hoj'
      have hnot : ∀ e ∈ oj.after, Region.binds md e = true → e.on ≠ i := fun e he hb heq => by
        have g1 := hall e he hb
        have g0 := (mem_ready.1 hr).1
        rw [heq] at g1
        rcases Nat.lt_or_ge i listed.size with h' | h'
        · simp [h'] at g0 g1; rw [g0] at g1; cases g1
        · simp [Array.getElem?_eq_none h'] at g1
      obtain ⟨a1, a2, a3⟩ := Oper.apart_spec (hfree j oj hoj hji hjun hnot)
      have hyi : SteadyU P ops S oi v (a.put oj.dst u) := hy.of_same (execOp_put oi (fun cs b => hsel i oi cs b hi) a oj.dst u a3) (wanted_put oi a oj.dst u a3)
      have hyj' : SteadyU P ops S oj u a := hyj.of_same (execOp_put oj (fun cs b => hsel j oj cs b hoj) a oi.dst v a1).symm (wanted_put oj a oi.dst v a1).symm
      have hfree' : ∀ q oq, ops[q]? = some oq → q ≠ i → (listed.setIfInBounds j true).getD q true = false →
          (∀ e ∈ oq.after, Region.binds md e = true → e.on ≠ i) → oi.apart ops oq = true := fun q oq hq hqi hun hno => by
        refine hfree q oq hq hqi ?_ hno
        by_cases hjq : j = q
        · subst hjq; exact hjun
        · rw [getD_set_ne true hjq] at hun; exact hun
      refine ⟨oj, u, hoj, hyj', ih (listed.setIfInBounds j true) (a.put oj.dst u) hfree' (ready_mono hr (Ne.symm hji)) hyi ?_⟩
      rw [Array.setIfInBounds_comm _ _ hji, ← Act.put_comm a v u a2]
      exact h1
theorem listU {i : Nat} {oi : Oper} (h : ops.toList[i]? = some oi) : ops[i]? = some oi := by rw [← Array.getElem?_toList]; exact h
/-- number i is taken first -/
theorem wpAnyU_take {i : Nat} {oi : Oper} {v : Value} {fuel : Nat} {listed : Array Bool} {a : Act} (hi : ops.toList[i]? = some oi)
    (hs : Region.noSelect ops = true) (hf : Region.free md ops listed i = true) (hr : (Region.ready md ops listed).contains i = true)
    (hy : SteadyU P ops S oi v a) (h : wpAnyU P md ops Q S fuel (listed.setIfInBounds i true) (a.put oi.dst v)) : wpAnyU P md ops Q S (fuel + 1) listed a :=
  wpAnyU_first (listU hi) (Region.noSelect_spec hs) fuel listed a (Region.free_spec (listU hi) hf) (by simpa using hr) hy h
theorem wpAnyU_done {listed : Array Bool} {a : Act} (hd : Region.ready md ops listed = []) (h : ∀ w, S w → Q .normal a w) : ∀ fuel, wpAnyU P md ops Q S fuel listed a
  | 0 => ⟨hd, h⟩
  | fuel + 1 => ⟨fun _ => h, by rw [hd]; simp⟩
theorem wp_region_U {id : Nat} {a : Act} {w : World} (hm : P.follows .mixedOrders = true) (S : World → Prop) (hS : S w.drew)
    (h : wpAnyU P .any ops Q S ops.size (Array.replicate ops.size false) a) : (Code.region id ops true).wp P Q a w :=
  wp_region_any hm (wpAny_of_U _ _ _ _ hS h)
/-- a wanted operation that yields, and changes nothing -/
theorem steady_val {o : Oper} {v : Value} {a : Act} (hw : Region.wanted o (yielded ops a.tmps) = true) (h : ∀ w, S w → (execOp a.eval o).run P w = .ok (.value v) w) : SteadyU P ops S o v a :=
  .inl ⟨hw, fun w hS => by rw [h w hS]; exact ⟨rfl, hS⟩⟩
theorem steady_not {o : Oper} {a : Act} (hw : Region.wanted o (yielded ops a.tmps) = false) : SteadyU P ops S o undef a := .inr ⟨hw, rfl⟩
/-- a wanted call -/
theorem steady_call {o : Oper} {v : Value} {a : Act} {f : FuncId} {args : Array Value} (hw : Region.wanted o (yielded ops a.tmps) = true) (h : ∀ w, S w → (execOp a.eval o).run P w = .ok (.enter f args) w) (hc : ∀ w, S w → Calls P f args w fun e w' => e = .returned v ∧ S w') : SteadyU P ops S o v a :=
  .inl ⟨hw, fun w hS => by rw [h w hS]; exact hc w hS⟩
/-- the first i are listed -/
def lstU (n i : Nat) : Array Bool := (List.range i).foldl (fun l j => l.setIfInBounds j true) (Array.replicate n false)
theorem lstU_succ (n i : Nat) : lstU n (i + 1) = (lstU n i).setIfInBounds i true := by
  unfold lstU
  rw [List.range_succ, List.foldl_append]
  rfl
/-- the order of the text may be taken -/
def inRow (ops : Array Oper) : Bool := Region.noSelect ops && ((List.range ops.size).all (fun i => Region.free .any ops (lstU ops.size i) i && (Region.ready .any ops (lstU ops.size i)).contains i) && (Region.ready .any ops (lstU ops.size ops.size)).isEmpty)
/-- one after the other -/
def seqU (P : Program) (ops : Array Oper) (Q : Exit → Act → World → Prop) (S : World → Prop) : Nat → Nat → Act → Prop
  | _, 0, a => ∀ w, S w → Q .normal a w
  | i, k + 1, a => ∃ o v, ops.toList[i]? = some o ∧ SteadyU P ops S o v a ∧ seqU P ops Q S (i + 1) k (a.put o.dst v)
theorem wpAnyU_of_seq (hc : inRow ops = true) : ∀ (k i : Nat) (a : Act), i + k = ops.size → seqU P ops Q S i k a → wpAnyU P .any ops Q S k (lstU ops.size i) a := by
  unfold inRow at hc
  simp only [Bool.and_eq_true, List.all_eq_true, List.mem_range, List.isEmpty_iff] at hc
  obtain ⟨hs, hf, hd⟩ := hc
  intro k
  induction k with
  | zero =>
    intro i a hi h
    rw [show i = ops.size by omega]
    exact wpAnyU_done hd h 0
  | succ k ih =>
    intro i a hi h
    obtain ⟨o, v, ho, hy, hr⟩ := h
    obtain ⟨h1, h2⟩ := hf i (by omega)
    refine wpAnyU_take ho hs h1 h2 hy ?_
    rw [← lstU_succ]
    exact ih (i + 1) _ (by omega) hr
theorem wp_region_seq {id : Nat} {a : Act} {w : World} (hm : P.follows .mixedOrders = true) (hc : inRow ops = true) (S : World → Prop) (hS : S w.drew) (h : seqU P ops Q S 0 ops.size a) : (Code.region id ops true).wp P Q a w :=
  wp_region_U hm S hS (wpAnyU_of_seq hc ops.size 0 a (Nat.zero_add _) h)
theorem seqU_step {i k : Nat} {a : Act} {o : Oper} {v : Value} (ho : ops.toList[i]? = some o) (hy : SteadyU P ops S o v a) (h : seqU P ops Q S (i + 1) k (a.put o.dst v)) : seqU P ops Q S i (k + 1) a := ⟨o, v, ho, hy, h⟩
theorem seqU_done {i : Nat} {a : Act} (h : ∀ w, S w → Q .normal a w) : seqU P ops Q S i 0 a := h
end
end Go
