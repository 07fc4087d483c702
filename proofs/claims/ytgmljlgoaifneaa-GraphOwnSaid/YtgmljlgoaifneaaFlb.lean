/- How the walk's tests on floats read as Bools over the integer key, and the words of the metric layer's tests as plain functions of the bits. Plain Lean: no program. Condition: none beyond each theorem's own hypotheses. -/
import Derived.Test.YtgmljlgoaifneaaFlt
import Derived.WalkKit
import Derived.WalkLawsBesides
namespace Flt
open Ieee Go

def flt (a b : Nat) : Bool := !isnan a && (!isnan b && decide (key a < key b))
def feq (a b : Nat) : Bool := !isnan a && (!isnan b && decide (key a = key b))
def fgt (a b : Nat) : Bool := flt b a

theorem order_cases (a b : Nat) : double.order a b = if isnan a = true ∨ isnan b = true then none else some (compare (key a) (key b)) := by
  cases ha : isnan a
  · cases hb : isnan b
    · rw [order_key ha hb]; simp
    · rw [order_nan_r a hb]; simp
  · rw [order_nan_l b ha]; simp

theorem cmp_lt (x y : Int) : (compare x y == .lt) = decide (x < y) := by
  simp only [compare, compareOfLessAndEq]
  by_cases h : x < y
  · simp [h]
  · rw [if_neg h]; split <;> simp [h]
theorem cmp_eq (x y : Int) : (compare x y == .eq) = decide (x = y) := by
  simp only [compare, compareOfLessAndEq]
  by_cases h : x < y
  · have : ¬ x = y := by omega
    simp [h, this]
  · rw [if_neg h]
    by_cases h2 : x = y
    · simp [h2]
    · simp [h2]
theorem cmp_gt (x y : Int) : (compare x y == .gt) = decide (y < x) := by
  simp only [compare, compareOfLessAndEq]
  by_cases h : x < y
  · have : ¬ y < x := by omega
    simp [h, this]
  · rw [if_neg h]
    by_cases h2 : x = y
    · simp [h2]
    · have : y < x := by omega
      simp [h2, this]

@[go_sem] theorem ord_lt (a b : Nat) : (FloatKind.f64.format.order a b == some .lt) = flt a b := by
  show (double.order a b == some .lt) = _
  rw [order_cases]; unfold flt
  cases isnan a <;> cases isnan b <;> simp [cmp_lt]
@[go_sem] theorem ord_eq (a b : Nat) : (FloatKind.f64.format.order a b == some .eq) = feq a b := by
  show (double.order a b == some .eq) = _
  rw [order_cases]; unfold feq
  cases isnan a <;> cases isnan b <;> simp [cmp_eq]
@[go_sem] theorem ord_gt (a b : Nat) : (FloatKind.f64.format.order a b == some .gt) = fgt a b := by
  show (double.order a b == some .gt) = _
  rw [order_cases]; unfold fgt flt
  cases isnan a <;> cases isnan b <;> simp [cmp_gt]
@[go_sem] theorem ord_ne (a b : Nat) : (FloatKind.f64.format.order a b != some .eq) = !feq a b := by
  rw [bne, ord_eq]

theorem feq_self (a : Nat) : feq a a = !isnan a := by unfold feq; cases isnan a <;> simp
theorem feq_comm (a b : Nat) : feq a b = feq b a := by
  unfold feq
  cases isnan a <;> cases isnan b <;> simp [eq_comm]
theorem flt_of {a b : Nat} (ha : isnan a = false) (hb : isnan b = false) : flt a b = decide (key a < key b) := by simp [flt, ha, hb]
theorem feq_of {a b : Nat} (ha : isnan a = false) (hb : isnan b = false) : feq a b = decide (key a = key b) := by simp [feq, ha, hb]
theorem flt_nan_l {a : Nat} (b : Nat) (ha : isnan a = true) : flt a b = false := by simp [flt, ha]
theorem flt_nan_r (a : Nat) {b : Nat} (hb : isnan b = true) : flt a b = false := by simp [flt, hb]
theorem feq_nan_l {a : Nat} (b : Nat) (ha : isnan a = true) : feq a b = false := by simp [feq, ha]

theorem nan_rung (b : Nat) : isnan b = true ↔ 9218868437227405312 < rung b := by unfold isnan infR; simp
theorem nan_rung' (b : Nat) : isnan b = false ↔ rung b ≤ 9218868437227405312 := by unfold isnan infR; simp
theorem key_bd (b : Nat) : -9223372036854775808 < key b ∧ key b < 9223372036854775808 := by
  have := rung_lt b; unfold key; split <;> omega

/-- the bits of an infinity: of +inf and -inf -/
def pinf : Nat := 9218868437227405312
def ninf : Nat := 18442240474082181120
def maxf : Nat := 9218868437227405311
def nmaxf : Nat := 18442240474082181119

theorem inf_tests (b : Nat) : (fgt b maxf || flt b nmaxf) = isinf b := by
  unfold fgt flt isinf
  have k1 : key maxf = 9218868437227405311 := by decide
  have k2 : key nmaxf = -9218868437227405311 := by decide
  have n1 : isnan maxf = false := by decide
  have n2 : isnan nmaxf = false := by decide
  rw [k1, k2, n1, n2]
  cases h : isnan b
  · have := (nan_rung' b).1 h
    simp only [Bool.not_false, Bool.true_and]
    rw [← Bool.decide_or]
    apply decide_eq_decide.2
    unfold key infR
    split <;> omega
  · have := (nan_rung b).1 h
    have : ¬ rung b = infR := by unfold infR; omega
    simp [this]

/-- the value of a Go 'Abs' -/
def absW (b : Nat) : Nat := rung b
theorem inf_abs (b : Nat) : fgt (absW b) maxf = isinf b := by
  unfold fgt flt isinf absW
  have k1 : key maxf = 9218868437227405311 := by decide
  have n1 : isnan maxf = false := by decide
  have hr : rung (rung b) = rung b := by unfold rung; omega
  have hs : sgn (rung b) = false := by
    have := rung_lt b
    unfold sgn; have : rung b / 9223372036854775808 = 0 := by omega
    rw [this]; rfl
  have kk : key (rung b) = rung b := by unfold key; rw [hs, hr]; simp
  have hn : isnan (rung b) = isnan b := by unfold isnan; rw [hr]
  rw [k1, n1, hn, kk]
  cases h : isnan b
  · have := (nan_rung' b).1 h
    simp only [Bool.not_false, Bool.true_and]
    apply decide_eq_decide.2
    unfold infR; omega
  · have := (nan_rung b).1 h
    have : ¬ rung b = infR := by unfold infR; omega
    simp [this]

def isPinf (b : Nat) : Bool := isinf b && !sgn b
theorem inf_plus (b : Nat) : fgt b maxf = isPinf b := by
  unfold fgt flt isPinf isinf
  have k1 : key maxf = 9218868437227405311 := by decide
  have n1 : isnan maxf = false := by decide
  rw [k1, n1]
  cases h : isnan b
  · have := (nan_rung' b).1 h
    simp only [Bool.not_false, Bool.true_and]
    unfold key infR
    cases hs : sgn b
    · simp; omega
    · simp
  · have := (nan_rung b).1 h
    have : ¬ rung b = infR := by unfold infR; omega
    simp [this]

/-! ### what a product, a sum, a whole number gives is a word, and no NaN -/
theorem nearest_notnan (s : Bool) (m : Nat) (pl : Int) : isnan (double.nearest s m pl) = false := by
  have hw : ∀ r, r ≤ 9218868437227405312 → isnan (double.word s r) = false := by
    intro r hr
    rw [nan_rung', word_eq, rung_mk (by omega)]; exact hr
  unfold Format.nearest
  dsimp only
  split
  · exact hw _ (by omega)
  · exact hw _ (Nat.min_le_right _ _)
theorem nearest_lt64 (s : Bool) (m : Nat) (pl : Int) : double.nearest s m pl < 18446744073709551616 := double.nearest_lt s m pl

theorem mul_some {x y : Nat} (hx : rung x < infR) (hy : rung y < infR) : ∃ q, double.mul x y = some q ∧ isnan q = false ∧ q < 18446744073709551616 := by
  obtain ⟨m, p, h1, _⟩ := read_fin hx
  obtain ⟨n, q, g1, _⟩ := read_fin hy
  unfold Format.mul
  rw [h1, g1]
  exact ⟨_, rfl, nearest_notnan _ _ _, nearest_lt64 _ _ _⟩

def truncW (b : Nat) : Nat := double.write ((double.read b).integral .zero)
def floorW (b : Nat) : Nat := double.write ((double.read b).integral .down)
def rteW (b : Nat) : Nat := double.write ((double.read b).integral .even)

theorem notnan_cases {b : Nat} (h : isnan b = false) : (∃ s m p, double.read b = .number s m p) ∨ (∃ s, double.read b = .infinity s) := by
  have h1 := (nan_rung' b).1 h
  rcases Nat.lt_or_eq_of_le h1 with h2 | h2
  · obtain ⟨m, p, g, _⟩ := read_fin (b := b) (by unfold infR; omega)
    exact .inl ⟨_, _, _, g⟩
  · exact .inr ⟨_, read_inf (b := b) (by unfold infR; omega)⟩

theorem toIntegral_def (name : String) (way : Toward) (b : Nat) : Extern.MathFloor.toIntegral name way #[.float .f64 b] =
    (match FloatKind.f64.decode b with
    | .nan s t =>
      if FloatKind.f64.format.quiet t = t then pure (.float .f64 b) else do
      let kept ← choose (.extern "math.Floor,Ceil,Trunc,RoundToEven.signallingNaN kept" 2)
      pure (.float .f64 (if kept == 1 then b else FloatKind.f64.encode (.nan s (FloatKind.f64.format.quiet t))))
    | d => pure (.float .f64 (FloatKind.f64.encode (d.integral way)))) := rfl

theorem toIntegral_notnan (name : String) (way : Toward) {b : Nat} (h : isnan b = false) : Extern.MathFloor.toIntegral name way #[.float .f64 b] = pure (.float .f64 (double.write ((double.read b).integral way))) := by
  rw [toIntegral_def]
  have e : FloatKind.f64.decode b = double.read b := rfl
  rw [e]
  rcases notnan_cases h with ⟨s, m, p, h1⟩ | ⟨s, h1⟩ <;> rw [h1] <;> rfl

/-- is a finite float a multiple of a quarter, as the text asks it? -/
def quarterB (b : Nat) : Bool := match double.mul b 4616189618054758400 with
  | some q => feq q (truncW q)
  | none => false

/-- metric.within, beaconref01.bounded -/
def withinI (f m : Nat) : Int :=
  if isnan f then 10 else if isinf f then 11 else if sgn f then 12 else if flt f 4607182418800017408 then 13 else if fgt f m then 14 else if quarterB f then 0 else 15

theorem withinI_bd (f m : Nat) : 0 ≤ withinI f m ∧ withinI f m ≤ 15 := by
  unfold withinI; repeat' split
  all_goals omega
end Flt
namespace Flt
open Ieee Go
/-- the NaN that the model draws for an invalid operation -/
def nanOf (w : World) (x y : Nat) : Nat := (Question.nanBits .f64 x y).cut (w.tape w.drawn (.nanBits .f64 x y))
theorem nanOf_lt (w : World) (x y : Nat) : nanOf w x y < 18446744073709551616 := by
  unfold nanOf Question.cut; simp only; omega
theorem nanOf_nan (w : World) (x y : Nat) : isnan (nanOf w x y) = true := by
  rw [nan_rung]; unfold nanOf rung Question.cut; simp only
  generalize w.tape w.drawn (Question.nanBits .f64 x y) = t
  have h1 : t / 2 % (2 ^ 52 - 1) < 2 ^ 52 - 1 := Nat.mod_lt _ (by omega)
  have h2 : t % 2 = 0 ∨ t % 2 = 1 := by omega
  generalize t / 2 % (2 ^ 52 - 1) = u at h1 ⊢
  rcases h2 with h2 | h2 <;> rw [h2] <;> omega

theorem run_float_nan {P : Program} (w : World) (op : BinOp) (ho : op = .add ∨ op = .sub ∨ op = .mul ∨ op = .quo) (t : TypeId) (x y : Nat) (h : floatBits op .f64 x y = none) :
    (binOp op t (.float .f64 x) (.float .f64 y)).run P w = .ok (.float .f64 (nanOf w x y)) w.drew := by
  have hq : (Question.nanBits .f64 x y).forced = false := rfl
  unfold floatBits at h
  rcases ho with rfl | rfl | rfl | rfl <;> simp only at h <;> simp [binOp, Op.floatArith, h, nanOf, hq]

/-- metric.Dist, beaconref01.Dist -/
def distI (d m : Nat) : Int :=
  if withinI m 4742290407621132288 = 0 then (if isnan d then 10 else if sgn d then 12 else if isPinf d then 0 else if flt d m then (if quarterB d then 0 else 15) else 16)
  else withinI m 4742290407621132288

/-- metric.Compare, beaconref01.Compare -/
def cmpI (a b : Nat) : Int :=
  if isnan a then (if isnan b then 0 else 1) else if isnan b then -1 else if flt a b then -1 else if fgt a b then 1 else 0

/-- metric.Add, beaconref01.Add -/
def addF (x d m : Nat) : Nat := match double.add x d with
  | none => 9221120237041090560
  | some s => if flt s m then (if feq s 0 then 0 else s) else 9218868437227405312

theorem withinI_zero {m c : Nat} (h : withinI m c = 0) : isnan m = false ∧ isinf m = false ∧ sgn m = false ∧ flt m 4607182418800017408 = false ∧ fgt m c = false ∧ quarterB m = true := by
  unfold withinI at h
  cases h1 : isnan m <;> cases h2 : isinf m <;> cases h3 : sgn m <;> cases h4 : flt m 4607182418800017408 <;> cases h5 : fgt m c <;> cases h6 : quarterB m <;> simp [h1, h2, h3, h4, h5, h6] at h ⊢

theorem isPinf_false {d : Nat} (h : isPinf d = false) (hs : sgn d = false) : isinf d = false := by
  unfold isPinf at h; rw [hs] at h; simpa using h
theorem add_notnan {x d s : Nat} (h : double.add x d = some s) : isnan s = false := by
  unfold Format.add at h
  cases hs : (double.read x).sum (double.read d) with
  | none => rw [hs] at h; cases h
  | some v =>
    rw [hs] at h
    simp only [Option.map_some, Option.some.injEq] at h
    subst h
    unfold Datum.sum at hs
    split at hs
    · cases hs
    · cases hs
    · split at hs
      · cases hs; rw [nan_rung']; unfold Format.write; simp only; rw [word_eq, rung_mk (by decide)]; decide
      · cases hs
    · cases hs; rw [nan_rung']; unfold Format.write; simp only; rw [word_eq, rung_mk (by decide)]; decide
    · cases hs; rw [nan_rung']; unfold Format.write; simp only; rw [word_eq, rung_mk (by decide)]; decide
    · cases hs; exact nearest_notnan _ _ _
theorem add_lt64 {x d s : Nat} (h : double.add x d = some s) : s < 18446744073709551616 := double.add_lt h
end Flt
namespace Flt
theorem ge_not_lt {d m : Nat} (hd : isnan d = false) (hm : isnan m = false) : (fgt d m || feq d m) = !flt d m := by
  unfold fgt flt feq
  rw [hd, hm]
  simp only [Bool.not_false, Bool.true_and]
  by_cases h : key d < key m
  · have h1 : ¬ key m < key d := by omega
    have h2 : ¬ key d = key m := by omega
    simp [h, h1, h2]
  · by_cases h2 : key d = key m
    · simp [h2]
    · have h1 : key m < key d := by omega
      simp [h, h1, h2]
theorem isPinf_eq {d : Nat} (hs : sgn d = false) : isPinf d = isinf d := by unfold isPinf; rw [hs]; simp
end Flt
