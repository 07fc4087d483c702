/- What is undone leaves what was; two changes of unlike things may be done in either order: plain Lean. Conditions: as each theorem's hypotheses say. -/
import Derived.Test.YtgmljlgoaifneaaGax
namespace Go.Proofs.Ytgmljlgoaifneaa
open Flt
set_option linter.unusedVariables false
theorem set_comm' {α : Type} {l : List α} {i j : Nat} {x y : α} (h : i ≠ j) : (l.set i x).set j y = (l.set j y).set i x := List.set_comm _ _ h
theorem ndA_set {ns : List Nd} {i j : Nat} {x : Nd} : ndA (ns.set i x) j = if i = j ∧ j < ns.length then x else ndA ns j := by
  unfold ndA
  rw [List.getD_eq_getElem?_getD, List.getD_eq_getElem?_getD, List.getElem?_set]
  by_cases h : i = j
  · subst h
    by_cases hl : i < ns.length
    · simp [hl]
    · simp [hl]
  · simp [h]
theorem lkA_set {ls : List Lk} {i j : Nat} {x : Lk} : lkA (ls.set i x) j = if i = j ∧ j < ls.length then x else lkA ls j := by
  unfold lkA
  rw [List.getD_eq_getElem?_getD, List.getD_eq_getElem?_getD, List.getElem?_set]
  by_cases h : i = j
  · subst h
    by_cases hl : i < ls.length
    · simp [hl]
    · simp [hl]
  · simp [h]
/-- what a change of a thing that is there leaves as it is seen -/
theorem apN_ids {ns : List Nd} {ls : List Lk} {k a b : Int} {x : Nat} (hk : 3 ≤ k) : (apN ns ls k a b x).map (fun y => y.id) = ns.map (fun y => y.id) := by
  unfold apN
  split
  · rw [if_neg (by omega)]
    split
    · rfl
    · exact modN_ids (turnN_id k)
  · rfl
theorem apL_abs {ns : List Nd} {ls : List Lk} {k a b : Int} {x : Nat} (hk : 3 ≤ k) : (apL ns ls k a b x).map (fun y => (y.a, y.b)) = ls.map (fun y => (y.a, y.b)) := by
  unfold apL
  split
  · rw [if_neg (by omega)]
    split
    · exact modL_abs (turnL_ab k x)
    · rfl
  · rfl
theorem apE_seen {ns ms : List Nd} {ls ks : List Lk} {k a b : Int} {x : Nat} (hk : 3 ≤ k) (h1 : ms.map (fun y => y.id) = ns.map (fun y => y.id)) (h2 : ks.map (fun y => (y.a, y.b)) = ls.map (fun y => (y.a, y.b))) : apE ms ks k a b x = apE ns ls k a b x := by
  unfold apE
  rw [if_neg (c := k = 1) (by omega), if_neg (c := k = 2) (by omega), if_neg (c := k = 1) (by omega), if_neg (c := k = 2) (by omega), hasL_abs h2, hasN_ids h1]
/-- two changes of things that are there, one behind the other: neither hangs on the other -/
theorem AE_after {ns : List Nd} {ls : List Lk} {k a b k2 a2 b2 : Int} {x x2 : Nat} (g : Good ns ls) (hk : 3 ≤ k) (hk2 : 3 ≤ k2) : AE (apN ns ls k a b x) (apL ns ls k a b x) k2 a2 b2 x2 = AE ns ls k2 a2 b2 x2 := by
  rw [show AE (apN ns ls k a b x) (apL ns ls k a b x) k2 a2 b2 x2 = apE (apN ns ls k a b x) (apL ns ls k a b x) k2 a2 b2 x2 from if_pos (ap_good g).chk, show AE ns ls k2 a2 b2 x2 = apE ns ls k2 a2 b2 x2 from if_pos g.chk]
  exact apE_seen hk2 (apN_ids hk) (apL_abs hk)
theorem modN_comm {ns : List Nd} {a b : Int} {f g : Nd → Nd} (hr : Rise ns) (hf : ∀ x, (f x).id = x.id) (hg : ∀ x, (g x).id = x.id) (ha : hasN ns a = true) (hb : hasN ns b = true) (hab : a ≠ b) : modN (modN ns a f) b g = modN (modN ns b g) a f := by
  have hc1 : cntN (modN ns a f) b = cntN ns b := cntN_ids (modN_ids hf) b
  have hc2 : cntN (modN ns b g) a = cntN ns a := cntN_ids (modN_ids hg) a
  have ia := cnt_id hr ha
  have ib := cnt_id hr hb
  have hne : cntN ns a ≠ cntN ns b := fun e => by rw [e] at ia; exact hab (ia.2.symm.trans ib.2)
  rw [show modN (modN ns a f) b g = (modN ns a f).set (cntN (modN ns a f) b) (g (ndA (modN ns a f) (cntN (modN ns a f) b))) from rfl, hc1]
  rw [show modN (modN ns b g) a f = (modN ns b g).set (cntN (modN ns b g) a) (f (ndA (modN ns b g) (cntN (modN ns b g) a))) from rfl, hc2]
  unfold modN
  rw [ndA_set, if_neg (fun h => hne h.1), ndA_set, if_neg (fun h => hne h.1.symm)]
  exact set_comm' hne
theorem modL_comm {ls : List Lk} {s t : Lk} {f g : Lk → Lk} (hr : RiseL ls) (hf : ∀ x, (f x).a = x.a ∧ (f x).b = x.b) (hg : ∀ x, (g x).a = x.a ∧ (g x).b = x.b) (ha : hasL ls s = true) (hb : hasL ls t = true) (hab : ¬ (s.a = t.a ∧ s.b = t.b)) : modL (modL ls s f) t g = modL (modL ls t g) s f := by
  have hc1 : cntL (modL ls s f) t = cntL ls t := cntL_abs (modL_abs hf) t
  have hc2 : cntL (modL ls t g) s = cntL ls s := cntL_abs (modL_abs hg) s
  have ia := cnt_lk hr ha
  have ib := cnt_lk hr hb
  have hne : cntL ls s ≠ cntL ls t := fun e => by rw [e] at ia; exact hab ⟨ia.2.1.symm.trans ib.2.1, ia.2.2.symm.trans ib.2.2⟩
  rw [show modL (modL ls s f) t g = (modL ls s f).set (cntL (modL ls s f) t) (g (lkA (modL ls s f) (cntL (modL ls s f) t))) from rfl, hc1]
  rw [show modL (modL ls t g) s f = (modL ls t g).set (cntL (modL ls t g) s) (f (lkA (modL ls t g) (cntL (modL ls t g) s))) from rfl, hc2]
  unfold modL
  rw [lkA_set, if_neg (fun h => hne h.1), lkA_set, if_neg (fun h => hne h.1.symm)]
  exact set_comm' hne
theorem modN_twice {ns : List Nd} {a : Int} {f g : Nd → Nd} (hr : Rise ns) (hf : ∀ x, (f x).id = x.id) (ha : hasN ns a = true) (hfg : ∀ x, g (f x) = g x) : modN (modN ns a f) a g = modN ns a g := by
  have hc1 : cntN (modN ns a f) a = cntN ns a := cntN_ids (modN_ids hf) a
  have ia := cnt_id hr ha
  rw [show modN (modN ns a f) a g = (modN ns a f).set (cntN (modN ns a f) a) (g (ndA (modN ns a f) (cntN (modN ns a f) a))) from rfl, hc1]
  unfold modN
  rw [ndA_set, if_pos ⟨rfl, ia.1⟩, hfg, List.set_set]
theorem modL_twice {ls : List Lk} {t : Lk} {f g : Lk → Lk} (hr : RiseL ls) (hf : ∀ x, (f x).a = x.a ∧ (f x).b = x.b) (ha : hasL ls t = true) (hfg : ∀ x, g (f x) = g x) : modL (modL ls t f) t g = modL ls t g := by
  have hc1 : cntL (modL ls t f) t = cntL ls t := cntL_abs (modL_abs hf) t
  have ia := cnt_lk hr ha
  rw [show modL (modL ls t f) t g = (modL ls t f).set (cntL (modL ls t f) t) (g (lkA (modL ls t f) (cntL (modL ls t f) t))) from rfl, hc1]
  unfold modL
  rw [lkA_set, if_pos ⟨rfl, ia.1⟩, hfg, List.set_set]
/-- what a change that may be done says -/
theorem ok_link {ns : List Nd} {ls : List Lk} {k a b : Int} {x : Nat} (h : apE ns ls k a b x = 0) (h3 : 3 ≤ k) (h5 : k ≤ 5) : hasL ls (lkT a b) = true := by
  unfold apE at h
  by_cases hb : bareB k b x = false
  · rw [if_pos hb] at h; omega
  · rw [if_neg hb, if_neg (by omega), if_neg (by omega)] at h
    cases hh : hasL ls (lkT a b)
    · rw [hh] at h
      by_cases h33 : k = 3
      · rw [if_pos h33, if_pos rfl] at h; omega
      · rw [if_neg h33, if_pos h5, if_pos rfl] at h; omega
    · rfl
theorem ok_node {ns : List Nd} {ls : List Lk} {k a b : Int} {x : Nat} (h : apE ns ls k a b x = 0) (h5 : 5 < k) : hasN ns a = true := by
  unfold apE at h
  by_cases hb : bareB k b x = false
  · rw [if_pos hb] at h; omega
  · rw [if_neg hb, if_neg (by omega), if_neg (by omega), if_neg (by omega), if_neg (by omega)] at h
    cases hh : hasN ns a
    · rw [hh, if_pos rfl] at h; omega
    · rfl
theorem apN_link {ns : List Nd} {ls : List Lk} {k a b : Int} {x : Nat} (h3 : 3 ≤ k) (h5 : k ≤ 5) : apN ns ls k a b x = ns := by
  have h1 : ¬ k = 1 := by omega
  unfold apN
  simp [h1, h5]
theorem apL_node {ns : List Nd} {ls : List Lk} {k a b : Int} {x : Nat} (h5 : 5 < k) : apL ns ls k a b x = ls := by
  unfold apL; split
  · rw [if_neg (by omega), if_neg (by omega)]
  · rfl
theorem apL_link {ns : List Nd} {ls : List Lk} {k a b : Int} {x : Nat} (h : apE ns ls k a b x = 0) (h3 : 3 ≤ k) (h5 : k ≤ 5) : apL ns ls k a b x = modL ls (lkT a b) (turnL k x) := by
  unfold apL; rw [if_pos h, if_neg (by omega), if_pos ⟨h3, h5⟩]
theorem apN_node {ns : List Nd} {ls : List Lk} {k a b : Int} {x : Nat} (h : apE ns ls k a b x = 0) (h5 : 5 < k) : apN ns ls k a b x = modN ns a (turnN k) := by
  unfold apN; rw [if_pos h, if_neg (by omega), if_neg (by omega)]
/-- of unlike things -/
def apart (k a b k2 a2 b2 : Int) : Prop := (k ≤ 5 ∧ ¬ k2 ≤ 5) ∨ (¬ k ≤ 5 ∧ k2 ≤ 5) ∨ (k ≤ 5 ∧ k2 ≤ 5 ∧ ¬ ((a = a2 ∧ b = b2) ∨ (a = b2 ∧ b = a2))) ∨ (¬ k ≤ 5 ∧ ¬ k2 ≤ 5 ∧ a ≠ a2)
theorem lkT_apart {a b a2 b2 : Int} (h : ¬ ((a = a2 ∧ b = b2) ∨ (a = b2 ∧ b = a2))) : ¬ ((lkT a b).a = (lkT a2 b2).a ∧ (lkT a b).b = (lkT a2 b2).b) := by
  unfold lkT mnI mxI
  dsimp only
  intro ⟨h1, h2⟩
  apply h
  split at h1 <;> split at h1 <;> split at h2 <;> split at h2 <;> omega
/-- either order -/
theorem either {ns : List Nd} {ls : List Lk} {k a b k2 a2 b2 : Int} {x x2 : Nat} (g : Good ns ls) (hk : 3 ≤ k) (hk2 : 3 ≤ k2) (hp : apart k a b k2 a2 b2) (h1 : apE ns ls k a b x = 0) (h2 : apE ns ls k2 a2 b2 x2 = 0) :
    apN (apN ns ls k a b x) (apL ns ls k a b x) k2 a2 b2 x2 = apN (apN ns ls k2 a2 b2 x2) (apL ns ls k2 a2 b2 x2) k a b x ∧ apL (apN ns ls k a b x) (apL ns ls k a b x) k2 a2 b2 x2 = apL (apN ns ls k2 a2 b2 x2) (apL ns ls k2 a2 b2 x2) k a b x := by
  have e1 : apE (apN ns ls k a b x) (apL ns ls k a b x) k2 a2 b2 x2 = 0 := (apE_seen hk2 (apN_ids hk) (apL_abs hk)).trans h2
  have e2 : apE (apN ns ls k2 a2 b2 x2) (apL ns ls k2 a2 b2 x2) k a b x = 0 := (apE_seen hk (apN_ids hk2) (apL_abs hk2)).trans h1
  by_cases h5 : k ≤ 5
  · by_cases h52 : k2 ≤ 5
    · rw [apN_link hk2 h52, apN_link hk h5, apN_link hk h5, apN_link hk2 h52]
      rw [apN_link hk h5] at e1
      rw [apN_link hk2 h52] at e2
      refine ⟨rfl, ?_⟩
      rw [apL_link e1 hk2 h52, apL_link e2 hk h5, apL_link h1 hk h5, apL_link h2 hk2 h52]
      refine modL_comm g.RiseL (turnL_ab k x) (turnL_ab k2 x2) (ok_link h1 hk h5) (ok_link h2 hk2 h52) (lkT_apart ?_)
      unfold apart at hp
      omega
    · have h53 : 5 < k2 := by omega
      rw [apL_node h53, apL_node h53, apN_link hk h5, apN_link hk h5]
      rw [apN_link hk h5] at e1
      rw [apL_node h53] at e2
      exact ⟨by rw [apN_node e1 h53, apN_node h2 h53], by rw [apL_link h1 hk h5, apL_link e2 hk h5]⟩
  · have h53 : 5 < k := by omega
    by_cases h52 : k2 ≤ 5
    · rw [apL_node h53, apL_node h53, apN_link hk2 h52, apN_link hk2 h52]
      rw [apN_link hk2 h52] at e2
      rw [apL_node h53] at e1
      exact ⟨by rw [apN_node h1 h53, apN_node e2 h53], by rw [apL_link e1 hk2 h52, apL_link h2 hk2 h52]⟩
    · have h54 : 5 < k2 := by omega
      rw [apL_node h54, apL_node h53, apL_node h53, apL_node h54]
      rw [apL_node h53] at e1
      rw [apL_node h54] at e2
      refine ⟨?_, rfl⟩
      rw [apN_node e1 h54, apN_node e2 h53, apN_node h1 h53, apN_node h2 h54]
      refine modN_comm g.Rise (turnN_id k) (turnN_id k2) (ok_node h1 h53) (ok_node h2 h54) ?_
      unfold apart at hp
      omega
/-- the kind that undoes -/
def bk (k : Int) : Int := if k = 4 then 5 else if k = 5 then 4 else if k = 6 then 7 else if k = 7 then 6 else if k = 8 then 9 else 8
theorem undone {ns : List Nd} {ls : List Lk} {k a b : Int} {x : Nat} (g : Good ns ls) (h : apE ns ls k a b x = 0) (h4 : 4 ≤ k) (h9 : k ≤ 9) :
    apE ns ls (bk k) a b x = 0 ∧ apN (apN ns ls k a b x) (apL ns ls k a b x) (bk k) a b x = apN ns ls (bk k) a b x ∧ apL (apN ns ls k a b x) (apL ns ls k a b x) (bk k) a b x = apL ns ls (bk k) a b x := by
  have hb : bareB k b x = true := by
    cases hb : bareB k b x
    · unfold apE at h; rw [if_pos hb] at h; omega
    · rfl
  have hkk : k = 4 ∨ k = 5 ∨ k = 6 ∨ k = 7 ∨ k = 8 ∨ k = 9 := by omega
  have hE : apE ns ls (bk k) a b x = 0 := by
    rcases hkk with rfl | rfl | rfl | rfl | rfl | rfl
    · have := ok_link h (by omega) (by omega); rw [show bk 4 = 5 from rfl, (ap_5 (by unfold bareB at hb ⊢; simpa using hb)).1, this]; rfl
    · have := ok_link h (by omega) (by omega); rw [show bk 5 = 4 from rfl, (ap_4 (by unfold bareB at hb ⊢; simpa using hb)).1, this]; rfl
    · have := ok_node h (by omega); rw [show bk 6 = 7 from rfl, (ap_7 (by unfold bareB at hb ⊢; simpa using hb)).1, this]; rfl
    · have := ok_node h (by omega); rw [show bk 7 = 6 from rfl, (ap_6 (by unfold bareB at hb ⊢; simpa using hb)).1, this]; rfl
    · have := ok_node h (by omega); rw [show bk 8 = 9 from rfl, (ap_9 (by unfold bareB at hb ⊢; simpa using hb)).1, this]; rfl
    · have := ok_node h (by omega); rw [show bk 9 = 8 from rfl, (ap_8 (by unfold bareB at hb ⊢; simpa using hb)).1, this]; rfl
  refine ⟨hE, ?_⟩
  have hE2 : apE (apN ns ls k a b x) (apL ns ls k a b x) (bk k) a b x = 0 := (apE_seen (by rcases hkk with rfl | rfl | rfl | rfl | rfl | rfl <;> decide) (apN_ids (by omega)) (apL_abs (by omega))).trans hE
  by_cases h5 : k ≤ 5
  · have hb3 : 3 ≤ bk k ∧ bk k ≤ 5 := by rcases hkk with rfl | rfl | rfl | rfl | rfl | rfl <;> first | (constructor <;> decide) | omega
    rw [apN_link hb3.1 hb3.2, apN_link hb3.1 hb3.2, apN_link (by omega) h5]
    rw [apN_link (by omega) h5] at hE2
    refine ⟨rfl, ?_⟩
    rw [apL_link hE2 hb3.1 hb3.2, apL_link hE hb3.1 hb3.2, apL_link h (by omega) h5]
    refine modL_twice g.RiseL (turnL_ab k x) (ok_link h (by omega) h5) fun y => ?_
    rcases hkk with rfl | rfl | rfl | rfl | rfl | rfl <;> first | rfl | omega
  · have hb3 : 5 < bk k := by rcases hkk with rfl | rfl | rfl | rfl | rfl | rfl <;> first | decide | omega
    rw [apL_node hb3, apL_node hb3, apL_node (by omega)]
    rw [apL_node (k := k) (by omega)] at hE2
    refine ⟨?_, rfl⟩
    rw [apN_node hE2 hb3, apN_node hE hb3, apN_node h (by omega)]
    refine modN_twice g.Rise (turnN_id k) (ok_node h (by omega)) fun y => ?_
    rcases hkk with rfl | rfl | rfl | rfl | rfl | rfl <;> first | rfl | omega
end Go.Proofs.Ytgmljlgoaifneaa
