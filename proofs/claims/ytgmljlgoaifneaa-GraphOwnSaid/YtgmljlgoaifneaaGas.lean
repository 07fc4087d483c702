/- What a change does to a graph, on lists; that a graph that may be stays one: plain Lean. Conditions: as each theorem's hypotheses say. -/
import Derived.Test.YtgmljlgoaifneaaGls
namespace Go.Proofs.Ytgmljlgoaifneaa
open Flt
set_option linter.unusedVariables false
/-- a router more, a link more -/
def addN (ns : List Nd) (a : Int) : List Nd := ns.take (cntN ns a) ++ [(⟨a, true, false⟩ : Nd)] ++ ns.drop (cntN ns a)
def addL (ls : List Lk) (t : Lk) : List Lk := ls.take (cntL ls t) ++ [t] ++ ls.drop (cntL ls t)
/-- a router turned, a link turned -/
def modN (ns : List Nd) (a : Int) (f : Nd → Nd) : List Nd := ns.set (cntN ns a) (f (ndA ns (cntN ns a)))
def modL (ls : List Lk) (t : Lk) (f : Lk → Lk) : List Lk := ls.set (cntL ls t) (f (lkA ls (cntL ls t)))
def turnN (k : Int) (x : Nd) : Nd := if k = 6 then ⟨x.id, x.up, true⟩ else if k = 7 then ⟨x.id, x.up, false⟩ else if k = 8 then ⟨x.id, false, x.mark⟩ else ⟨x.id, true, x.mark⟩
def turnL (k : Int) (w : Nat) (x : Lk) : Lk := if k = 3 then ⟨x.a, x.b, w, x.up⟩ else if k = 4 then ⟨x.a, x.b, x.w, false⟩ else ⟨x.a, x.b, x.w, true⟩
/-- has a change parts that its kind has not, or no kind -/
def bareB (k b : Int) (x : Nat) : Bool := decide (1 ≤ k) && decide (k ≤ 9) && ((decide (2 ≤ k) && decide (k ≤ 5)) || decide (b = 0)) && ((decide (k = 2) || decide (k = 3)) || decide (x = 0))
/-- why a change may not be -/
def apE (ns : List Nd) (ls : List Lk) (k a b : Int) (x : Nat) : Int :=
  if bareB k b x = false then 1 else
  if k = 1 then (if idOk a = false then 70 else if hasN ns a = true then 72 else if 256 ≤ ns.length then 2 else 0)
  else if k = 2 then (if hasN ns a = false then 70 else if hasN ns b = false then 70 else if a = b then 71 else if hasL ls (lkT a b) = true then 72 else if withinI x 4697254411347427328 = 0 then (if 4096 ≤ ls.length then 2 else 0) else withinI x 4697254411347427328)
  else if k = 3 then (if hasL ls (lkT a b) = false then 4 else withinI x 4697254411347427328)
  else if k ≤ 5 then (if hasL ls (lkT a b) = false then 4 else 0)
  else (if hasN ns a = false then 4 else 0)
def apN (ns : List Nd) (ls : List Lk) (k a b : Int) (x : Nat) : List Nd :=
  if apE ns ls k a b x = 0 then (if k = 1 then addN ns a else if k ≤ 5 then ns else modN ns a (turnN k)) else ns
def apL (ns : List Nd) (ls : List Lk) (k a b : Int) (x : Nat) : List Lk :=
  if apE ns ls k a b x = 0 then (if k = 2 then addL ls ⟨mnI a b, mxI a b, x, true⟩ else if 3 ≤ k ∧ k ≤ 5 then modL ls (lkT a b) (turnL k x) else ls) else ls
theorem turnN_id (k : Int) (x : Nd) : (turnN k x).id = x.id := by unfold turnN; split <;> (try rfl); split <;> (try rfl); split <;> rfl
theorem turnL_ab (k : Int) (w : Nat) (x : Lk) : (turnL k w x).a = x.a ∧ (turnL k w x).b = x.b := by unfold turnL; split <;> (try exact ⟨rfl, rfl⟩); split <;> exact ⟨rfl, rfl⟩
theorem cntL_t (ls : List Lk) (t : Lk) (w : Nat) (u : Bool) : cntL ls ⟨t.a, t.b, w, u⟩ = cntL ls t := rfl
/-- routers that rise, taken apart at a number -/
theorem cut_nd {a : Int} : ∀ {ns : List Nd}, ns.Pairwise (fun x y => x.id < y.id) → (∀ x ∈ ns.take (cntN ns a), x.id < a) ∧ (∀ x ∈ ns.drop (cntN ns a), a ≤ x.id)
  | [], _ => ⟨by simp, by simp⟩
  | x :: ns, h => by
    have h' := List.pairwise_cons.1 h
    by_cases hx : x.id < a
    · have e : cntN (x :: ns) a = cntN ns a + 1 := by unfold cntN; rw [List.countP_cons_of_pos (by simpa using hx)]
      rw [e]
      obtain ⟨i1, i2⟩ := cut_nd (a := a) h'.2
      exact ⟨fun y hy => by
        rcases List.mem_cons.1 hy with rfl | hy
        · exact hx
        · exact i1 y hy, i2⟩
    · have e : cntN (x :: ns) a = 0 := by
        unfold cntN
        rw [List.countP_eq_zero]
        intro y hy
        rcases List.mem_cons.1 hy with rfl | hy
        · simpa using hx
        · have := h'.1 y hy; simp; omega
      rw [e]
      refine ⟨by simp, fun y hy => ?_⟩
      rcases List.mem_cons.1 hy with rfl | hy
      · omega
      · have := h'.1 y hy; omega
theorem cut_lk {t : Lk} : ∀ {ls : List Lk}, ls.Pairwise (fun x y => lkLt x y = true) → (∀ x ∈ ls.take (cntL ls t), lkLt x t = true) ∧ (∀ x ∈ ls.drop (cntL ls t), ¬ lkLt x t = true)
  | [], _ => ⟨by simp, by simp⟩
  | x :: ls, h => by
    have h' := List.pairwise_cons.1 h
    by_cases hx : lkLt x t = true
    · have e : cntL (x :: ls) t = cntL ls t + 1 := by unfold cntL; rw [List.countP_cons_of_pos (p := fun y => lkLt y t) hx]
      rw [e]
      obtain ⟨i1, i2⟩ := cut_lk (t := t) h'.2
      exact ⟨fun y hy => by
        rcases List.mem_cons.1 hy with rfl | hy
        · exact hx
        · exact i1 y hy, i2⟩
    · have e : cntL (x :: ls) t = 0 := by
        unfold cntL
        rw [List.countP_eq_zero]
        intro y hy
        rcases List.mem_cons.1 hy with rfl | hy
        · exact hx
        · exact lkLe_of_lt hx (h'.1 y hy)
      rw [e]
      refine ⟨by simp, fun y hy => ?_⟩
      rcases List.mem_cons.1 hy with rfl | hy
      · exact hx
      · exact lkLe_of_lt hx (h'.1 y hy)
theorem pair_ins {α : Type} {R : α → α → Prop} {l r : List α} {x : α} (hp : (l ++ r).Pairwise R) (h1 : ∀ y ∈ l, R y x) (h2 : ∀ y ∈ r, R x y) : (l ++ [x] ++ r).Pairwise R := by
  have h := List.pairwise_append.1 hp
  rw [List.append_assoc, List.pairwise_append]
  refine ⟨h.1, ?_, ?_⟩
  · show (x :: r).Pairwise R
    exact List.pairwise_cons.2 ⟨h2, h.2.1⟩
  · intro a ha b hb
    rcases List.mem_append.1 hb with hb | hb
    · rw [List.mem_singleton.1 hb]; exact h1 a ha
    · exact h.2.2 a ha b hb
theorem mem_addN {ns : List Nd} {a : Int} {y : Nd} : y ∈ addN ns a ↔ y = ⟨a, true, false⟩ ∨ y ∈ ns := by
  unfold addN
  rw [List.append_assoc, List.mem_append, List.mem_append, List.mem_singleton]
  constructor
  · rintro (h | h | h)
    · exact .inr (List.mem_of_mem_take h)
    · exact .inl h
    · exact .inr (List.mem_of_mem_drop h)
  · rintro (h | h)
    · exact .inr (.inl h)
    · rw [← List.take_append_drop (cntN ns a) ns, List.mem_append] at h
      rcases h with h | h
      · exact .inl h
      · exact .inr (.inr h)
theorem mem_addL {ls : List Lk} {t y : Lk} : y ∈ addL ls t ↔ y = t ∨ y ∈ ls := by
  unfold addL
  rw [List.append_assoc, List.mem_append, List.mem_append, List.mem_singleton]
  constructor
  · rintro (h | h | h)
    · exact .inr (List.mem_of_mem_take h)
    · exact .inl h
    · exact .inr (List.mem_of_mem_drop h)
  · rintro (h | h)
    · exact .inr (.inl h)
    · rw [← List.take_append_drop (cntL ls t) ls, List.mem_append] at h
      rcases h with h | h
      · exact .inl h
      · exact .inr (.inr h)
theorem len_addN {ns : List Nd} {a : Int} : (addN ns a).length = ns.length + 1 := by
  have : cntN ns a ≤ ns.length := List.countP_le_length
  unfold addN; simp; omega
theorem len_addL {ls : List Lk} {t : Lk} : (addL ls t).length = ls.length + 1 := by
  have : cntL ls t ≤ ls.length := List.countP_le_length
  unfold addL; simp; omega
theorem hasN_no {ns : List Nd} {x : Int} (h : hasN ns x = false) : ∀ y ∈ ns, y.id ≠ x := fun y hy e => by
  rw [hasN_mem.2 ⟨y, hy, e⟩] at h; cases h
theorem hasL_mem {ls : List Lk} {t : Lk} : hasL ls t = true ↔ ∃ y ∈ ls, y.a = t.a ∧ y.b = t.b := by unfold hasL; rw [List.any_eq_true]; simp
theorem hasL_no {ls : List Lk} {t : Lk} (h : hasL ls t = false) : ∀ y ∈ ls, ¬ (y.a = t.a ∧ y.b = t.b) := fun y hy e => by
  rw [hasL_mem.2 ⟨y, hy, e⟩] at h; cases h
/-- what stays as it is seen where one is turned -/
theorem map_set {α β : Type} {p : α → β} {l : List α} {i : Nat} {x : α} (h : ∀ y, l[i]? = some y → p x = p y) : (l.set i x).map p = l.map p := by
  apply List.ext_getElem?
  intro j
  rw [List.getElem?_map, List.getElem?_map, List.getElem?_set]
  split
  · rename_i e
    subst e
    split
    · rename_i hl
      rw [List.getElem?_eq_getElem hl]
      simp [h _ (List.getElem?_eq_getElem hl)]
    · rename_i hl
      rw [List.getElem?_eq_none (by omega)]
  · rfl
theorem modN_ids {ns : List Nd} {a : Int} {f : Nd → Nd} (hf : ∀ x, (f x).id = x.id) : (modN ns a f).map (fun x => x.id) = ns.map (fun x => x.id) :=
  map_set fun y hy => by
    have hl := (List.getElem?_eq_some_iff.1 hy).1
    rw [ndA_some hl] at hy
    injection hy with e
    rw [hf, e]
theorem modL_abs {ls : List Lk} {t : Lk} {f : Lk → Lk} (hf : ∀ x, (f x).a = x.a ∧ (f x).b = x.b) : (modL ls t f).map (fun x => (x.a, x.b)) = ls.map (fun x => (x.a, x.b)) :=
  map_set fun y hy => by
    have hl := (List.getElem?_eq_some_iff.1 hy).1
    rw [lkA_some hl] at hy
    injection hy with e
    rw [(hf _).1, (hf _).2, e]
theorem cntN_ids {ns ms : List Nd} (h : ns.map (fun x => x.id) = ms.map (fun x => x.id)) (a : Int) : cntN ns a = cntN ms a := by
  have e : ∀ l : List Nd, cntN l a = (l.map (fun x => x.id)).countP (fun i => decide (i < a)) := fun l => by unfold cntN; rw [List.countP_map]; rfl
  rw [e, e, h]
theorem hasN_ids {ns ms : List Nd} (h : ns.map (fun x => x.id) = ms.map (fun x => x.id)) (a : Int) : hasN ns a = hasN ms a := by
  have e : ∀ l : List Nd, hasN l a = (l.map (fun x => x.id)).any (fun i => decide (i = a)) := fun l => by unfold hasN; rw [List.any_map]; rfl
  rw [e, e, h]
theorem cntL_abs {ls ms : List Lk} (h : ls.map (fun x => (x.a, x.b)) = ms.map (fun x => (x.a, x.b))) (t : Lk) : cntL ls t = cntL ms t := by
  have e : ∀ l : List Lk, cntL l t = (l.map (fun x => (x.a, x.b))).countP (fun i => decide (i.1 < t.a) || (decide (i.1 = t.a) && decide (i.2 < t.b))) := fun l => by unfold cntL; rw [List.countP_map]; rfl
  rw [e, e, h]
theorem hasL_abs {ls ms : List Lk} (h : ls.map (fun x => (x.a, x.b)) = ms.map (fun x => (x.a, x.b))) (t : Lk) : hasL ls t = hasL ms t := by
  have e : ∀ l : List Lk, hasL l t = (l.map (fun x => (x.a, x.b))).any (fun i => decide (i.1 = t.a) && decide (i.2 = t.b)) := fun l => by unfold hasL; rw [List.any_map]; rfl
  rw [e, e, h]
theorem pair_ids {ns ms : List Nd} (h : ns.map (fun x => x.id) = ms.map (fun x => x.id)) (hp : ns.Pairwise fun x y => x.id < y.id) : ms.Pairwise fun x y => x.id < y.id := by
  have := List.pairwise_map.2 (show ns.Pairwise (fun x y => (fun x : Nd => x.id) x < (fun x : Nd => x.id) y) from hp)
  rw [h] at this
  exact List.pairwise_map.1 this
theorem pair_abs {ls ms : List Lk} (h : ls.map (fun x => (x.a, x.b)) = ms.map (fun x => (x.a, x.b))) (hp : ls.Pairwise fun x y => lkLt x y = true) : ms.Pairwise fun x y => lkLt x y = true := by
  have := (List.pairwise_map (f := fun x : Lk => (x.a, x.b)) (R := fun i j : Int × Int => (decide (i.1 < j.1) || (decide (i.1 = j.1) && decide (i.2 < j.2))) = true) (l := ls)).2 hp
  rw [h] at this
  exact (List.pairwise_map (f := fun x : Lk => (x.a, x.b)) (R := fun i j : Int × Int => (decide (i.1 < j.1) || (decide (i.1 = j.1) && decide (i.2 < j.2))) = true) (l := ms)).1 this
theorem mem_ids {ns ms : List Nd} (h : ns.map (fun x => x.id) = ms.map (fun x => x.id)) {y : Nd} (hy : y ∈ ms) : ∃ z ∈ ns, z.id = y.id := by
  have : y.id ∈ ns.map (fun x => x.id) := by rw [h]; exact List.mem_map_of_mem hy
  obtain ⟨z, hz, e⟩ := List.mem_map.1 this
  exact ⟨z, hz, e⟩
theorem mem_set' {α : Type} {l : List α} {i : Nat} {x y : α} (h : y ∈ l.set i x) : y = x ∨ y ∈ l := by
  rcases List.mem_or_eq_of_mem_set h with h | h
  · exact .inr h
  · exact .inl h
theorem hasN_addN {ns : List Nd} {a x : Int} (h : hasN ns x = true) : hasN (addN ns a) x = true := by
  obtain ⟨y, hy, e⟩ := hasN_mem.1 h
  exact hasN_mem.2 ⟨y, mem_addN.2 (.inr hy), e⟩
theorem add_good {ns : List Nd} {ls : List Lk} {a : Int} (g : Good ns ls) (hid : idOk a = true) (hno : hasN ns a = false) (hn : ns.length < 256) : Good (addN ns a) ls := by
  obtain ⟨c1, c2⟩ := cut_nd (a := a) g.rise
  refine ⟨by rw [len_addN]; omega, g.l, fun x hx => ?_, ?_, fun x hx => ?_, g.lrise⟩
  · rcases mem_addN.1 hx with rfl | hx
    · exact hid
    · exact g.ids x hx
  · refine pair_ins (by rw [List.take_append_drop]; exact g.rise) c1 fun y hy => ?_
    have := hasN_no hno y (List.mem_of_mem_drop hy)
    have := c2 y hy
    show a < y.id
    omega
  · obtain ⟨e1, e2, e3⟩ := g.ends x hx
    exact ⟨hasN_addN e1, hasN_addN e2, e3⟩
theorem mn_mx {a b : Int} (h : ¬ a = b) : mnI a b < mxI a b := by unfold mnI mxI; split <;> split <;> omega
theorem mn_has {ns : List Nd} {a b : Int} (ha : hasN ns a = true) (hb : hasN ns b = true) : hasN ns (mnI a b) = true ∧ hasN ns (mxI a b) = true := by
  unfold mnI mxI; constructor <;> split <;> assumption
theorem link_good {ns : List Nd} {ls : List Lk} {a b : Int} {x : Nat} (g : Good ns ls) (ha : hasN ns a = true) (hb : hasN ns b = true) (hab : ¬ a = b) (hno : hasL ls (lkT a b) = false) (hx : withinI x 4697254411347427328 = 0) (hn : ls.length < 4096) : Good ns (addL ls ⟨mnI a b, mxI a b, x, true⟩) := by
  obtain ⟨c1, c2⟩ := cut_lk (t := ⟨mnI a b, mxI a b, x, true⟩) g.lrise
  refine ⟨g.n, by rw [len_addL]; omega, g.ids, g.rise, fun y hy => ?_, ?_⟩
  · rcases mem_addL.1 hy with rfl | hy
    · exact ⟨(mn_has ha hb).1, (mn_has ha hb).2, mn_mx hab, hx⟩
    · exact g.ends y hy
  · refine pair_ins (by rw [List.take_append_drop]; exact g.lrise) c1 fun y hy => ?_
    have h1 := hasL_no hno y (List.mem_of_mem_drop hy)
    have h2 := c2 y hy
    rw [lkLt_iff] at h2 ⊢
    unfold lkT at h1
    dsimp only at h1 h2 ⊢
    omega
theorem modN_good {ns : List Nd} {ls : List Lk} {a : Int} {f : Nd → Nd} (g : Good ns ls) (hf : ∀ x, (f x).id = x.id) : Good (modN ns a f) ls := by
  have h := modN_ids (ns := ns) (a := a) hf
  refine ⟨by unfold modN; rw [List.length_set]; exact g.n, g.l, fun x hx => ?_, pair_ids h.symm g.rise, fun x hx => ?_, g.lrise⟩
  · obtain ⟨z, hz, e⟩ := mem_ids h.symm hx
    rw [← e]; exact g.ids z hz
  · rw [hasN_ids h, hasN_ids h]; exact g.ends x hx
theorem modL_good {ns : List Nd} {ls : List Lk} {t : Lk} {f : Lk → Lk} (g : Good ns ls) (ht : hasL ls t = true) (hf : ∀ x, (f x).a = x.a ∧ (f x).b = x.b) (hw : ∀ x ∈ ls, withinI (f x).w 4697254411347427328 = 0) : Good ns (modL ls t f) := by
  have h := modL_abs (ls := ls) (t := t) hf
  refine ⟨g.n, by unfold modL; rw [List.length_set]; exact g.l, g.ids, g.rise, fun x hx => ?_, pair_abs h.symm g.lrise⟩
  rcases mem_set' hx with rfl | hx
  · have hlt : cntL ls t < ls.length := by
      obtain ⟨i, hi, e⟩ := hasL_iff.1 ht
      obtain ⟨c1, c2⟩ := cut_lk (t := t) g.lrise
      rcases Nat.lt_or_ge (cntL ls t) ls.length with h | h
      · exact h
      · have := c1 ls[i] (by rw [List.take_of_length_le h]; exact List.getElem_mem hi)
        rw [lkA_get hi] at e
        rw [lkLt_iff] at this
        omega
    have hm : lkA ls (cntL ls t) ∈ ls := by rw [lkA_get hlt]; exact List.getElem_mem _
    obtain ⟨e1, e2, e3, e4⟩ := g.ends _ hm
    rw [(hf _).1, (hf _).2]
    exact ⟨e1, e2, e3, hw _ hm⟩
  · exact g.ends x hx
theorem bareB_kind {k b : Int} {x : Nat} (h : bareB k b x = true) : 1 ≤ k ∧ k ≤ 9 := by
  unfold bareB at h; simp only [Bool.and_eq_true, decide_eq_true_eq] at h; exact ⟨h.1.1.1, h.1.1.2⟩
/-- a graph that may be stays one -/
theorem ap_good {ns : List Nd} {ls : List Lk} {k a b : Int} {x : Nat} (g : Good ns ls) : Good (apN ns ls k a b x) (apL ns ls k a b x) := by
  unfold apN apL
  by_cases h0 : apE ns ls k a b x = 0
  · rw [if_pos h0, if_pos h0]
    unfold apE at h0
    by_cases hb : bareB k b x = false
    · rw [if_pos hb] at h0; omega
    · rw [if_neg hb] at h0
      by_cases h1 : k = 1
      · subst h1
        simp only [if_true] at h0
        rw [if_pos rfl, if_neg (by decide), if_neg (by decide)]
        by_cases c1 : idOk a = false
        · rw [if_pos c1] at h0; omega
        · rw [if_neg c1] at h0
          by_cases c2 : hasN ns a = true
          · rw [if_pos c2] at h0; omega
          · rw [if_neg c2] at h0
            by_cases c3 : 256 ≤ ns.length
            · rw [if_pos c3] at h0; omega
            · exact add_good g (by simpa using c1) (by simpa using c2) (by omega)
      · rw [if_neg h1] at h0
        rw [if_neg h1]
        by_cases h2 : k = 2
        · subst h2
          simp only [if_true] at h0
          rw [if_pos (by decide), if_pos rfl]
          by_cases c1 : hasN ns a = false
          · rw [if_pos c1] at h0; omega
          · rw [if_neg c1] at h0
            by_cases c2 : hasN ns b = false
            · rw [if_pos c2] at h0; omega
            · rw [if_neg c2] at h0
              by_cases c3 : a = b
              · rw [if_pos c3] at h0; omega
              · rw [if_neg c3] at h0
                by_cases c4 : hasL ls (lkT a b) = true
                · rw [if_pos c4] at h0; omega
                · rw [if_neg c4] at h0
                  by_cases c5 : withinI x 4697254411347427328 = 0
                  · rw [if_pos c5] at h0
                    by_cases c6 : 4096 ≤ ls.length
                    · rw [if_pos c6] at h0; omega
                    · exact link_good g (by simpa using c1) (by simpa using c2) c3 (by simpa using c4) c5 (by omega)
                  · rw [if_neg c5] at h0; exact absurd h0 c5
        · rw [if_neg h2] at h0
          rw [if_neg h2]
          by_cases h3 : k = 3
          · subst h3
            simp only [if_true] at h0
            rw [if_pos (by decide), if_pos (by decide)]
            by_cases c4 : hasL ls (lkT a b) = false
            · rw [if_pos c4] at h0; omega
            · rw [if_neg c4] at h0
              exact modL_good g (by simpa using c4) (turnL_ab 3 x) fun y hy => h0
          · rw [if_neg h3] at h0
            have hk := bareB_kind (by simpa using hb)
            by_cases h5 : k ≤ 5
            · rw [if_pos h5] at h0
              rw [if_pos h5, if_pos ⟨by omega, h5⟩]
              by_cases c4 : hasL ls (lkT a b) = false
              · rw [if_pos c4] at h0; omega
              · refine modL_good g (by simpa using c4) (turnL_ab k x) fun y hy => ?_
                have := (g.ends y hy).2.2.2
                unfold turnL
                rw [if_neg h3]
                split <;> exact this
            · rw [if_neg h5, if_neg (by omega)]
              exact modN_good g (turnN_id k)
  · rw [if_neg h0, if_neg h0]; exact g
end Go.Proofs.Ytgmljlgoaifneaa
