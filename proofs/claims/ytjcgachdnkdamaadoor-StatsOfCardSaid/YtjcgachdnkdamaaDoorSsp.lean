/- The sum that is made good, by definition; what a sum of floats that are no NaN gives. Plain Lean: no program. Condition: none beyond each theorem's own hypotheses. -/
import Derived.Test.YtjcgachdnkdamaaDoorSfl
import Derived.Test.YtjcgachdnkdamaaDoorMem
namespace Flt
open Ieee Go

/-- a value that is the float, or any NaN where there is none -/
def RV (v : Nat) (o : Option Nat) : Prop := v < 18446744073709551616 ∧ match o with
  | some b => v = b ∧ isnan b = false
  | none => isnan v = true
def toldW (v : Nat) : Nat := if isnan v then 9221120237041090560 else if feq v 0 then 0 else v
def toldS (o : Option Nat) : Nat := match o with
  | some b => if feq b 0 then 0 else b
  | none => 9221120237041090560
theorem RV.told {v : Nat} {o : Option Nat} (h : RV v o) : toldW v = toldS o := by
  obtain ⟨_, h⟩ := h
  unfold toldW toldS
  cases o with
  | none => rw [h]; rfl
  | some b => obtain ⟨rfl, h2⟩ := h; rw [h2]; rfl
theorem RV.some_ {b : Nat} (hl : b < 18446744073709551616) (h : isnan b = false) : RV b (some b) := ⟨hl, rfl, h⟩
theorem RV.lt {v : Nat} {o : Option Nat} (h : RV v o) : v < 18446744073709551616 := h.1
theorem nan_add_l {x : Nat} (y : Nat) (h : isnan x = true) : double.add x y = none := by
  unfold Format.add; rw [read_nan h]; rfl
theorem nan_add_r (x : Nat) {y : Nat} (h : isnan y = true) : double.add x y = none := by
  unfold Format.add; rw [read_nan h]; cases double.read x <;> rfl
/-- a float added to a float -/
theorem RV.add {v : Nat} {o : Option Nat} (h : RV v o) (x : Nat) : (∃ r, double.add v x = some r ∧ o.bind (double.add · x) = some r ∧ RV r (some r)) ∨ (double.add v x = none ∧ o.bind (double.add · x) = none) := by
  obtain ⟨_, h⟩ := h
  cases o with
  | none => exact .inr ⟨nan_add_l _ h, rfl⟩
  | some b =>
    obtain ⟨rfl, _⟩ := h
    cases hr : double.add v x with
    | none => exact .inr ⟨rfl, hr⟩
    | some r => exact .inl ⟨r, rfl, hr, add_lt64 hr, rfl, add_notnan hr⟩
def fin (b : Nat) : Prop := isnan b = false ∧ isinf b = false ∧ b < 18446744073709551616
theorem fin.rung {b : Nat} (h : fin b) : rung b < infR := by
  have h1 := (nan_rung' b).1 h.1
  have h2 := h.2.1
  unfold isinf at h2
  have h3 := of_decide_eq_false h2
  unfold infR at *
  omega
theorem add_some {x y : Nat} (hx : isnan x = false) (hy : fin y) : ∃ r, double.add x y = some r := by
  obtain ⟨n, q, g1, _⟩ := read_fin hy.rung
  unfold Format.add
  rw [g1]
  rcases notnan_cases hx with ⟨s, m, p, h⟩ | ⟨s, h⟩
  · rw [h]; exact ⟨_, rfl⟩
  · rw [h]; exact ⟨_, rfl⟩
theorem sub_some {x y : Nat} (hx : fin x) (hy : fin y) : ∃ r, double.sub x y = some r ∧ isnan r = false ∧ r < 18446744073709551616 := by
  obtain ⟨m, p, h1, _⟩ := read_fin hx.rung
  obtain ⟨n, q, g1, _⟩ := read_fin hy.rung
  unfold Format.sub
  rw [h1, g1]
  exact ⟨_, rfl, nearest_notnan _ _ _, nearest_lt64 _ _ _⟩

def geB (a b : Nat) : Bool := fgt a b || feq a b
/-- what rounding lost of s + x = t -/
def midS (s t x : Nat) : Option Nat := if geB (absW s) (absW x) then (double.sub s t).bind (double.add · x) else (double.sub x t).bind (double.add · s)
def stepS (s : Nat) (c : Option Nat) (x : Nat) : Option (Nat × Option Nat) :=
  if isnan x || isinf x then none else match double.add s x with
  | none => none
  | some t => if isinf t then none else some (t, c.bind fun b => (midS s t x).bind (double.add b))
def plainTo (l : List Nat) : Nat → Option Nat
  | 0 => some 0
  | k + 1 => (plainTo l k).bind (double.add · (Go.Mem.fat l k))
def sumTo (l : List Nat) : Nat → Option (Nat × Option Nat)
  | 0 => some (0, some 0)
  | k + 1 => (sumTo l k).bind fun p => stepS p.1 p.2 (Go.Mem.fat l k)
def plainS (l : List Nat) (n : Nat) : Nat := toldS (plainTo l n)
def sumS (l : List Nat) (n : Nat) : Nat := match sumTo l n with
  | some (s, c) => toldS (c.bind (double.add s))
  | none => plainS l n
theorem sumTo_none {l : List Nat} {k : Nat} (h : sumTo l k = none) : ∀ j, sumTo l (k + j) = none := by
  intro j
  induction j with
  | zero => exact h
  | succ j ih => show (sumTo l (k + j)).bind _ = none; rw [ih]; rfl
theorem sumS_bad {l : List Nat} {n k : Nat} (hk : k < n) {s : Nat} {c : Option Nat} (h : sumTo l k = some (s, c)) (hb : stepS s c (Go.Mem.fat l k) = none) : sumS l n = plainS l n := by
  have h1 : sumTo l (k + 1) = none := by show (sumTo l k).bind _ = none; rw [h]; exact hb
  have h2 := sumTo_none h1 (n - (k + 1))
  rw [show k + 1 + (n - (k + 1)) = n by omega] at h2
  unfold sumS; rw [h2]
theorem sumTo_step {l : List Nat} {k : Nat} {s t : Nat} {c c' : Option Nat} (h : sumTo l k = some (s, c)) (hb : stepS s c (Go.Mem.fat l k) = some (t, c')) : sumTo l (k + 1) = some (t, c') := by
  show (sumTo l k).bind _ = _
  rw [h]; exact hb
/-- the four of awake -/
theorem sum_awake : sumS [4607182418800017408, 6103021453049119613, 4607182418800017408, 15326393489903895421] 4 = 4611686018427387904 := by decide +kernel
theorem text_awake : textS 4609434218613702656 = ⟨#[49, 46, 53, 48, 48]⟩ := by decide +kernel
end Flt
