/- Words for memory: a slice of floats that reads as a list of bits (nil let in). Plain. -/
import Derived.Test.YtgmljlgoaifneaaFlb
import Derived.Below
import Derived.Laws.OwnMore
import Derived.Deep.Draws
namespace Go.Mem
open Go.RowKit

/-- the k-th of a list of bits -/
def fat (l : List Nat) (k : Nat) : Nat := l.getD k 0

/-- a slice of floats of n elements at A reads as l, and lies below block B -/
def FRow (w : World) (B : Nat) (A : Option Addr) (n : Nat) (l : List Nat) : Prop :=
  l.length = n ∧ (0 < n → ∃ b off, A = some ⟨b, off, none⟩ ∧ b < B ∧ ∀ i, i < n → w.cell? ⟨b, off + i, none⟩ = some (.float .f64 (fat l i)))

theorem FRow.keep {w w' : World} {B n : Nat} {A : Option Addr} {l : List Nat} (h : FRow w B A n l) (hk : ∀ p : Addr, p.block < B → w'.cell? p = w.cell? p) : FRow w' B A n l :=
  ⟨h.1, fun hn => by
    obtain ⟨b, off, e, hb, hc⟩ := h.2 hn
    exact ⟨b, off, e, hb, fun i hi => (hk _ hb).trans (hc i hi)⟩⟩
theorem FRow.below {w w' : World} {B n : Nat} {A : Option Addr} {l : List Nat} (h : FRow w B A n l) (hb : Below B w w') : FRow w' B A n l := h.keep fun _ hp => hb.cell hp
theorem FRow.drewN {w : World} {B n : Nat} {A : Option Addr} {l : List Nat} (h : FRow w B A n l) (k : Nat) : FRow (w.drewN k) B A n l := h
theorem FRow.more {w : World} {B B' n : Nat} {A : Option Addr} {l : List Nat} (h : FRow w B A n l) (hB : B ≤ B') : FRow w B' A n l :=
  ⟨h.1, fun hn => by
    obtain ⟨b, off, e, hb, hc⟩ := h.2 hn
    exact ⟨b, off, e, by omega, hc⟩⟩
end Go.Mem

namespace Flt
open Go.Mem
/-- the place of the first least one of the first k -/
def leastTo (l : List Nat) : Nat → Int
  | 0 => -1
  | k + 1 => if leastTo l k < 0 then (k : Int) else if cmpI (fat l k) (fat l (leastTo l k).toNat) < 0 then (k : Int) else leastTo l k
theorem leastTo_bd (l : List Nat) (k : Nat) : -1 ≤ leastTo l k ∧ leastTo l k < k ∧ (0 < k → 0 ≤ leastTo l k) := by
  induction k with
  | zero => simp [leastTo]
  | succ k ih =>
    unfold leastTo
    split
    · omega
    · split <;> omega
end Flt
namespace Go.Mem
/-- a call that leaves the world alone, met inside a quiet region behind other draws -/
theorem quiet_more {P : Program} {f : FuncId} {args : Array Value} {w : World} {a n : Nat} {v : Value} (h : Calls P f args (w.drewN (a + n)) fun e w' => e = .returned v ∧ w' = w.drewN (a + n)) :
    Calls P f args (w.drewN (a + n)) fun e w'' => e = .returned v ∧ ∃ m, w'' = w.drewN (a + m) := h.mono fun _ _ ⟨he, hm⟩ => ⟨he, n, hm⟩
theorem quiet_more' {P : Program} {f : FuncId} {args : Array Value} {w : World} {a n : Nat} {v : Value} (h : Calls P f args (w.drewN (a + n)) fun e w' => e = .returned v ∧ ∃ k, w' = (w.drewN (a + n)).drewN k) :
    Calls P f args (w.drewN (a + n)) fun e w'' => e = .returned v ∧ ∃ m, w'' = w.drewN (a + m) := h.mono fun _ _ ⟨he, m, hm⟩ => ⟨he, n + m, by rw [hm, World.drewN_drewN, Nat.add_assoc]⟩
end Go.Mem
