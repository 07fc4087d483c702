/- Graphs as lists of routers and of links; their cells in memory; may a graph be: plain Lean, no program. Conditions: as each theorem's hypotheses say. -/
import Derived.Test.YtgmljlgoaifneaaFlb
import Derived.Test.YtgmljlgoaifneaaRow
namespace Flt
set_option linter.unusedVariables false
open Go
/-- a router, a link -/
structure Nd where make ::
  id : Int
  up : Bool
  mark : Bool
structure Lk where make ::
  a : Int
  b : Int
  w : Nat
  up : Bool
def ndC (x : Nd) : List Value := [.int .i64 x.id, .bool x.up, .bool x.mark]
def lkC (x : Lk) : List Value := [.int .i64 x.a, .int .i64 x.b, .float .f64 x.w, .bool x.up]
theorem flat_get {α : Type} (f : α → List Value) (k : Nat) (hf : ∀ x, (f x).length = k) : ∀ (l : List α) (i j : Nat), j < k → (l.flatMap f)[i * k + j]? = l[i]?.bind fun x => (f x)[j]?
  | [], i, j, _ => by simp
  | x :: l, 0, j, hj => by
    rw [List.flatMap_cons, List.getElem?_append_left (by rw [hf]; omega)]
    simp
  | x :: l, i + 1, j, hj => by
    rw [List.flatMap_cons, List.getElem?_append_right (by rw [hf, Nat.succ_mul]; omega), hf]
    rw [show (i + 1) * k + j - k = i * k + j by rw [Nat.succ_mul]; omega]
    rw [flat_get f k hf l i j hj]
    simp
theorem flat_len {α : Type} (f : α → List Value) (k : Nat) (hf : ∀ x, (f x).length = k) : ∀ l : List α, (l.flatMap f).length = l.length * k
  | [] => by simp
  | x :: l => by rw [List.flatMap_cons, List.length_append, hf, flat_len f k hf l, List.length_cons, Nat.succ_mul]; omega
/-- the i-th router, the i-th link -/
def ndA (l : List Nd) (i : Nat) : Nd := l.getD i ⟨0, false, false⟩
def lkA (l : List Lk) (i : Nat) : Lk := l.getD i ⟨0, 0, 0, false⟩
theorem ndA_some {l : List Nd} {i : Nat} (h : i < l.length) : l[i]? = some (ndA l i) := by
  unfold ndA; rw [List.getD_eq_getElem?_getD, List.getElem?_eq_getElem h]; rfl
theorem lkA_some {l : List Lk} {i : Nat} (h : i < l.length) : l[i]? = some (lkA l i) := by
  unfold lkA; rw [List.getD_eq_getElem?_getD, List.getElem?_eq_getElem h]; rfl
theorem ndC_get {l : List Nd} {i : Nat} (h : i < l.length) : (l.flatMap ndC)[i * 3]? = some (.int .i64 (ndA l i).id) ∧ (l.flatMap ndC)[i * 3 + 1]? = some (.bool (ndA l i).up) ∧ (l.flatMap ndC)[i * 3 + 2]? = some (.bool (ndA l i).mark) := by
  have h0 := flat_get ndC 3 (fun _ => rfl) l i 0 (by omega)
  have h1 := flat_get ndC 3 (fun _ => rfl) l i 1 (by omega)
  have h2 := flat_get ndC 3 (fun _ => rfl) l i 2 (by omega)
  rw [ndA_some h] at h0 h1 h2
  exact ⟨h0, h1, h2⟩
theorem lkC_get {l : List Lk} {i : Nat} (h : i < l.length) : (l.flatMap lkC)[i * 4]? = some (.int .i64 (lkA l i).a) ∧ (l.flatMap lkC)[i * 4 + 1]? = some (.int .i64 (lkA l i).b) ∧ (l.flatMap lkC)[i * 4 + 2]? = some (.float .f64 (lkA l i).w) ∧ (l.flatMap lkC)[i * 4 + 3]? = some (.bool (lkA l i).up) := by
  have h0 := flat_get lkC 4 (fun _ => rfl) l i 0 (by omega)
  have h1 := flat_get lkC 4 (fun _ => rfl) l i 1 (by omega)
  have h2 := flat_get lkC 4 (fun _ => rfl) l i 2 (by omega)
  have h3 := flat_get lkC 4 (fun _ => rfl) l i 3 (by omega)
  rw [lkA_some h] at h0 h1 h2 h3
  exact ⟨h0, h1, h2, h3⟩
end Flt
namespace Go.Mem
open Flt Go.RowKit
/-- slices of routers and of links -/
def GN (w : World) (B : Nat) (A : Option Addr) (n : Nat) (l : List Nd) : Prop := l.length = n ∧ Row w B 3 A n (l.flatMap ndC)
def GL (w : World) (B : Nat) (A : Option Addr) (n : Nat) (l : List Lk) : Prop := l.length = n ∧ Row w B 4 A n (l.flatMap lkC)
theorem GN.below {w w' : World} {B n : Nat} {A : Option Addr} {l : List Nd} (h : GN w B A n l) (hb : Below B w w') : GN w' B A n l := ⟨h.1, h.2.below hb⟩
theorem GL.below {w w' : World} {B n : Nat} {A : Option Addr} {l : List Lk} (h : GL w B A n l) (hb : Below B w w') : GL w' B A n l := ⟨h.1, h.2.below hb⟩
theorem GN.more {w : World} {B B' n : Nat} {A : Option Addr} {l : List Nd} (h : GN w B A n l) (hB : B ≤ B') : GN w B' A n l := ⟨h.1, h.2.more hB⟩
theorem GL.more {w : World} {B B' n : Nat} {A : Option Addr} {l : List Lk} (h : GL w B A n l) (hB : B ≤ B') : GL w B' A n l := ⟨h.1, h.2.more hB⟩
theorem GN.drewN {w : World} {B n : Nat} {A : Option Addr} {l : List Nd} (h : GN w B A n l) (k : Nat) : GN (w.drewN k) B A n l := h
theorem GL.drewN {w : World} {B n : Nat} {A : Option Addr} {l : List Lk} (h : GL w B A n l) (k : Nat) : GL (w.drewN k) B A n l := h
theorem GN.at {w : World} {B n : Nat} {A : Option Addr} {l : List Nd} (h : GN w B A n l) (hn : 0 < n) : ∃ b off, A = some ⟨b, off, none⟩ ∧ b < B ∧ ∀ i, i < n → w.cell? ⟨b, off + i * 3, none⟩ = some (.int .i64 (ndA l i).id) ∧ w.cell? ⟨b, off + (i * 3 + 1), none⟩ = some (.bool (ndA l i).up) ∧ w.cell? ⟨b, off + (i * 3 + 2), none⟩ = some (.bool (ndA l i).mark) := by
  obtain ⟨b, off, e, hb, hc⟩ := h.2.2 hn
  refine ⟨b, off, e, hb, fun i hi => ?_⟩
  have g := ndC_get (l := l) (i := i) (by rw [h.1]; exact hi)
  exact ⟨hc _ _ g.1, hc _ _ g.2.1, hc _ _ g.2.2⟩
theorem GL.at {w : World} {B n : Nat} {A : Option Addr} {l : List Lk} (h : GL w B A n l) (hn : 0 < n) : ∃ b off, A = some ⟨b, off, none⟩ ∧ b < B ∧ ∀ i, i < n → w.cell? ⟨b, off + i * 4, none⟩ = some (.int .i64 (lkA l i).a) ∧ w.cell? ⟨b, off + (i * 4 + 1), none⟩ = some (.int .i64 (lkA l i).b) ∧ w.cell? ⟨b, off + (i * 4 + 2), none⟩ = some (.float .f64 (lkA l i).w) ∧ w.cell? ⟨b, off + (i * 4 + 3), none⟩ = some (.bool (lkA l i).up) := by
  obtain ⟨b, off, e, hb, hc⟩ := h.2.2 hn
  refine ⟨b, off, e, hb, fun i hi => ?_⟩
  have g := lkC_get (l := l) (i := i) (by rw [h.1]; exact hi)
  exact ⟨hc _ _ g.1, hc _ _ g.2.1, hc _ _ g.2.2.1, hc _ _ g.2.2.2⟩
end Go.Mem
namespace Flt
/-- may a router's number be -/
def idOk (x : Int) : Bool := decide (1 ≤ x) && decide (x ≤ 2147483647)
/-- is a router there -/
def hasN (ns : List Nd) (x : Int) : Bool := ns.any fun y => decide (y.id = x)
theorem hasN_iff {ns : List Nd} {x : Int} : hasN ns x = true ↔ ∃ i, i < ns.length ∧ (ndA ns i).id = x := by
  unfold hasN
  rw [List.any_eq_true]
  constructor
  · rintro ⟨y, hy, h⟩
    obtain ⟨i, hi, rfl⟩ := List.getElem_of_mem hy
    refine ⟨i, hi, ?_⟩
    have := ndA_some hi
    rw [List.getElem?_eq_getElem hi] at this
    injection this with e
    rw [← e]; simpa using h
  · rintro ⟨i, hi, h⟩
    have := ndA_some hi
    rw [List.getElem?_eq_getElem hi] at this
    injection this with e
    exact ⟨_, List.getElem_mem hi, by rw [e]; simpa using h⟩
def nodBad (ns : List Nd) (i : Nat) : Bool := !idOk (ndA ns i).id || (decide (0 < i) && decide ((ndA ns i).id ≤ (ndA ns (i - 1)).id))
/-- what is wrong with the first k routers -/
def nodTo (ns : List Nd) : Nat → Bool
  | 0 => false
  | k + 1 => nodTo ns k || nodBad ns k
theorem nodTo_bad {ns : List Nd} {k n : Nat} (hk : k < n) (h : nodBad ns k = true) : nodTo ns n = true := by
  induction n with
  | zero => omega
  | succ n ih =>
    unfold nodTo
    by_cases e : k = n
    · subst e; rw [h]; simp
    · rw [ih (by omega)]; rfl
theorem nodTo_ok {ns : List Nd} {n : Nat} (h : nodTo ns n = false) : ∀ k, k < n → nodBad ns k = false := fun k hk => by
  cases hb : nodBad ns k
  · rfl
  · rw [nodTo_bad hk hb] at h; cases h
/-- the routers rise -/
def Rise (ns : List Nd) : Prop := ∀ i j, i < j → j < ns.length → (ndA ns i).id < (ndA ns j).id
theorem rise_of {ns : List Nd} (h : nodTo ns ns.length = false) : Rise ns := fun i j hij hj => by
  induction j with
  | zero => omega
  | succ j ih =>
    have hb := nodTo_ok h (j + 1) hj
    unfold nodBad at hb
    simp at hb
    by_cases e : i = j
    · subst e; omega
    · have := ih (by omega) (by omega); omega
def lkLt (x y : Lk) : Bool := decide (x.a < y.a) || (decide (x.a = y.a) && decide (x.b < y.b))
def lnkBad (ns : List Nd) (ls : List Lk) (i : Nat) : Bool := !hasN ns (lkA ls i).a || !hasN ns (lkA ls i).b || decide ((lkA ls i).b ≤ (lkA ls i).a) || (decide (0 < i) && !lkLt (lkA ls (i - 1)) (lkA ls i))
/-- what is wrong with the first k links -/
def lnkTo (ns : List Nd) (ls : List Lk) : Nat → Int
  | 0 => 0
  | k + 1 => if lnkTo ns ls k = 0 then (if lnkBad ns ls k then 71 else withinI (lkA ls k).w 4697254411347427328) else lnkTo ns ls k
theorem lnkTo_stay {ns : List Nd} {ls : List Lk} {k n : Nat} (hk : k ≤ n) (h : lnkTo ns ls k ≠ 0) : lnkTo ns ls n = lnkTo ns ls k := by
  induction n with
  | zero => have : k = 0 := by omega
            subst this; rfl
  | succ n ih =>
    by_cases e : k = n + 1
    · subst e; rfl
    · have := ih (by omega)
      show (if lnkTo ns ls n = 0 then _ else _) = _
      rw [if_neg (by rw [this]; exact h), this]
theorem lnkTo_bad {ns : List Nd} {ls : List Lk} {k n : Nat} (hk : k < n) (h : lnkTo ns ls k = 0) (hb : lnkBad ns ls k = true) : lnkTo ns ls n = 71 := by
  have e : lnkTo ns ls (k + 1) = 71 := by
    show (if lnkTo ns ls k = 0 then (if _ then _ else _) else _) = _
    rw [if_pos h, if_pos hb]
  rw [lnkTo_stay hk (by rw [e]; decide), e]
theorem lnkTo_weight {ns : List Nd} {ls : List Lk} {k : Nat} (h : lnkTo ns ls k = 0) (hb : lnkBad ns ls k = false) : lnkTo ns ls (k + 1) = withinI (lkA ls k).w 4697254411347427328 := by
  show (if lnkTo ns ls k = 0 then (if _ then _ else _) else _) = _
  rw [if_pos h, if_neg (by rw [hb]; decide)]
/-- why a graph may not be -/
def chkG (ns : List Nd) (ls : List Lk) : Int :=
  if 256 < ns.length ∨ 4096 < ls.length then 2 else if nodTo ns ns.length then 70 else lnkTo ns ls ls.length
theorem chkG_full {ns : List Nd} {ls : List Lk} (h : 256 < ns.length ∨ 4096 < ls.length) : chkG ns ls = 2 := if_pos h
theorem chkG_node {ns : List Nd} {ls : List Lk} (h0 : ns.length ≤ 256) (h1 : ls.length ≤ 4096) (h : nodTo ns ns.length = true) : chkG ns ls = 70 := by
  unfold chkG; rw [if_neg (by omega), if_pos h]
theorem chkG_link {ns : List Nd} {ls : List Lk} (h0 : ns.length ≤ 256) (h1 : ls.length ≤ 4096) (h : nodTo ns ns.length = false) : chkG ns ls = lnkTo ns ls ls.length := by
  unfold chkG; rw [if_neg (by omega), if_neg (by rw [h]; decide)]
/-- how many routers stand ahead of a number -/
def cntN (ns : List Nd) (x : Int) : Nat := ns.countP fun y => decide (y.id < x)
end Flt
