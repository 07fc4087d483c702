/- Numbers and names: what the printed functions of both texts come to, in plain words. Plain Lean over the printed functions. No condition but each theorem's own. -/
import Derived.Test.YtfmookfiakfioaaDoorPOrderx3
import Derived.Test.YtfmookfiakfioaaDoorPScorex1
namespace Go.Proofs.YtfmookfiakfioaaDoor.Idn
open Go.RowKit Go.Proofs.YtfmookfiakfioaaDoorW.PrintWords

theorem wrap_up {i n : Int} (h0 : 0 ≤ i) (h : i < n) (hn : n ≤ 9223372036854775807) : wrap64 (i + 1) = i + 1 := by unfold wrap64; omega
theorem wrap_dn {i : Int} (h0 : 1 ≤ i) (hn : i ≤ 9223372036854775807) : wrap64 (i - 1) = i - 1 := by unfold wrap64; omega
theorem Ev.pos {α : Type} {c : Prop} [Decidable c] {f g : Nat → Option α} {r : α} (h : c) (k : Ev f r) : Ev (fun n => if c then f n else g n) r := Ev.congr (fun _ => if_pos h) k
theorem Ev.neg {α : Type} {c : Prop} [Decidable c] {f g : Nat → Option α} {r : α} (h : ¬ c) (k : Ev g r) : Ev (fun n => if c then f n else g n) r := Ev.congr (fun _ => if_neg h) k
theorem Ev.eq {α : Type} {g : Nat → Option α} {r : α} {n : Option α} (h : n = some r) (hg : ∀ k, g k = n) : Ev g r := ⟨0, fun k _ => (hg k).trans h⟩

/-- may a byte stand in a name? -/
def okC (c : Int) : Bool := decide (c = 45) || (decide (97 ≤ c) && decide (c ≤ 122)) || (decide (48 ≤ c) && decide (c ≤ 57))
def restOk (s : ByteArray) : Nat → Nat → Bool
  | 0, _ => true
  | d + 1, i => okC (bt s i) && restOk s d (i + 1)
def nameE (s : ByteArray) : Int :=
  if s.size < 1 ∨ 32 < s.size ∨ bt s 0 < 97 ∨ 122 < bt s 0 ∨ bt s ((s.size : Int) - 1) = 45 then 21 else if restOk s s.size 0 = true then 0 else 21
theorem nameE_ways (s : ByteArray) : nameE s = 0 ∨ nameE s = 21 := by unfold nameE; split; exact .inr rfl; split; exact .inl rfl; exact .inr rfl
theorem nameE_size {s : ByteArray} (h : nameE s = 0) : s.size ≤ 32 := by
  unfold nameE at h
  split at h
  · cases h
  · omega
theorem within_eq (c : Int) : PScore.ident_within.f c = some (okC c) := by
  unfold PScore.ident_within.f okC
  repeat' split
  all_goals
    refine congrArg some ?_
    rw [Bool.eq_iff_iff]
    simp only [Bool.or_eq_true, Bool.and_eq_true, decide_eq_true_eq]
    constructor
    · intro h; first | omega | (cases h; done)
    · intro h; first | trivial | omega
theorem letter_eq (c : Int) : POrder.beaconref02_letter.f c = some (decide (97 ≤ c) && decide (c ≤ 122)) := by
  unfold POrder.beaconref02_letter.f
  split <;> (congr 1; simp; omega)
theorem digit_eq (c : Int) : POrder.beaconref02_digit.f c = some (decide (48 ≤ c) && decide (c ≤ 57)) := by
  unfold POrder.beaconref02_digit.f
  split <;> (congr 1; simp; omega)
theorem name_loop (s : ByteArray) (hs : s.size ≤ 32) : ∀ (d i : Nat), i + d = s.size → Ev (fun k => PScore.ident_CheckName.l0 k s (s.size : Int) (i : Int)) (if restOk s d i = true then 0 else 21) := by
  intro d
  induction d with
  | zero =>
    intro i hi
    exact Ev.step (f := fun _ => some 0) (fun k => by simp only [PScore.ident_CheckName.l0]; rw [if_neg (by omega)]) (Ev.now 0)
  | succ d ih =>
    intro i hi
    have ih := ih (i + 1) (by omega)
    have hw : wrap64 ((i : Int) + 1) = ((i + 1 : Nat) : Int) := by unfold wrap64; omega
    cases ho : okC (bt s i) with
    | true =>
      refine Ev.step (f := fun k => PScore.ident_CheckName.l0 k s (s.size : Int) ((i + 1 : Nat) : Int)) (fun k => ?_) (by rw [show restOk s (d + 1) i = restOk s d (i + 1) by simp [restOk, ho]]; exact ih)
      simp only [PScore.ident_CheckName.l0]
      rw [if_pos (by omega), if_pos (by omega), if_pos (by omega), within_eq, ho, hw]
      rfl
    | false =>
      rw [show restOk s (d + 1) i = false by simp [restOk, ho]]
      refine Ev.step (f := fun _ => some 21) (fun k => ?_) (Ev.now _)
      simp only [PScore.ident_CheckName.l0]
      rw [if_pos (by omega), if_pos (by omega), if_pos (by omega), within_eq, ho]
      rfl
theorem checkName (s : ByteArray) : Ev (fun k => PScore.ident_CheckName.f k s) (nameE s) := by
  have hj : Ev (fun k => PScore.ident_CheckName.j0 k s (s.size : Int) true) 21 := Ev.step (f := fun _ => some 21) (fun k => by simp only [PScore.ident_CheckName.j0]; rfl) (Ev.now _)
  unfold PScore.ident_CheckName.f
  by_cases h1 : s.size < 1
  · refine Ev.pos (by omega) ?_; rw [show nameE s = 21 by unfold nameE; rw [if_pos (by omega)]]; exact hj
  · refine Ev.neg (by omega) ?_
    by_cases h2 : 32 < s.size
    · refine Ev.pos (by omega) ?_; rw [show nameE s = 21 by unfold nameE; rw [if_pos (by omega)]]; exact hj
    · refine Ev.neg (by omega) (Ev.pos (by omega) ?_)
      by_cases h3 : bt s 0 < 97
      · refine Ev.pos h3 ?_; rw [show nameE s = 21 by unfold nameE; rw [if_pos (by omega)]]; exact hj
      · refine Ev.neg h3 ?_
        by_cases h4 : 122 < bt s 0
        · refine Ev.pos (by omega) ?_; rw [show nameE s = 21 by unfold nameE; rw [if_pos (by omega)]]; exact hj
        · have hw : wrap64 ((s.size : Int) - 1) = (s.size : Int) - 1 := wrap_dn (by omega) (by omega)
          refine Ev.neg (by omega) ?_
          rw [hw]
          refine Ev.pos (by omega) (Ev.pos (by omega) ?_)
          by_cases h5 : bt s ((s.size : Int) - 1) = 45
          · rw [show nameE s = 21 by unfold nameE; rw [if_pos (by omega)], h5]; exact hj
          · have e : nameE s = if restOk s s.size 0 = true then 0 else 21 := by unfold nameE; rw [if_neg (by omega)]
            rw [e]
            refine Ev.step (f := fun k => PScore.ident_CheckName.l0 k s (s.size : Int) ((0 : Nat) : Int)) (fun k => ?_) (name_loop s (by omega) s.size 0 (by omega))
            simp only [PScore.ident_CheckName.j0]
            rw [if_neg (by simpa using h5)]
            rfl
theorem rname_loop (s : ByteArray) (hs : s.size ≤ 32) : ∀ (d i : Nat), i + d = s.size → Ev (fun k => POrder.beaconref02_CheckName.l0 k s (s.size : Int) (i : Int)) (if restOk s d i = true then 0 else 21) := by
  intro d
  induction d with
  | zero =>
    intro i hi
    exact Ev.step (f := fun _ => some 0) (fun k => by simp only [POrder.beaconref02_CheckName.l0]; rw [if_neg (by omega)]) (Ev.now 0)
  | succ d ih =>
    intro i hi
    have ih := ih (i + 1) (by omega)
    have hw : wrap64 ((i : Int) + 1) = ((i + 1 : Nat) : Int) := by unfold wrap64; omega
    cases h1 : (decide (97 ≤ bt s i) && decide (bt s i ≤ 122)) with
    | true =>
      have ho : okC (bt s i) = true := by unfold okC; rw [h1]; simp
      refine Ev.step (f := fun k => POrder.beaconref02_CheckName.l0 k s (s.size : Int) ((i + 1 : Nat) : Int)) (fun k => ?_) (by rw [show restOk s (d + 1) i = restOk s d (i + 1) by simp [restOk, ho]]; exact ih)
      simp only [POrder.beaconref02_CheckName.l0]
      rw [if_pos (by omega), if_pos (by omega), if_pos (by omega), letter_eq, h1, hw]
      rfl
    | false =>
      cases h2 : (decide (48 ≤ bt s i) && decide (bt s i ≤ 57)) with
      | true =>
        have ho : okC (bt s i) = true := by unfold okC; rw [h2]; simp
        refine Ev.step (f := fun k => POrder.beaconref02_CheckName.l0 k s (s.size : Int) ((i + 1 : Nat) : Int)) (fun k => ?_) (by rw [show restOk s (d + 1) i = restOk s d (i + 1) by simp [restOk, ho]]; exact ih)
        simp only [POrder.beaconref02_CheckName.l0]
        rw [if_pos (by omega), if_pos (by omega), if_pos (by omega), letter_eq, h1, digit_eq, h2, hw]
        rfl
      | false =>
        by_cases h3 : bt s i = 45
        · have ho : okC (bt s i) = true := by unfold okC; rw [h3]; rfl
          refine Ev.step (f := fun k => POrder.beaconref02_CheckName.l0 k s (s.size : Int) ((i + 1 : Nat) : Int)) (fun k => ?_) (by rw [show restOk s (d + 1) i = restOk s d (i + 1) by simp [restOk, ho]]; exact ih)
          simp only [POrder.beaconref02_CheckName.l0]
          rw [if_pos (by omega), if_pos (by omega), if_pos (by omega), letter_eq, h1, digit_eq, h2, hw]
          simp only [Option.bind_some]
          rw [if_neg (by decide), if_neg (by decide), if_pos h3]
        · have ho : okC (bt s i) = false := by unfold okC; rw [h1, h2]; simp [h3]
          rw [show restOk s (d + 1) i = false by simp [restOk, ho]]
          refine Ev.step (f := fun _ => some 21) (fun k => ?_) (Ev.now _)
          simp only [POrder.beaconref02_CheckName.l0]
          rw [if_pos (by omega), if_pos (by omega), if_pos (by omega), letter_eq, h1, digit_eq, h2]
          simp only [Option.bind_some]
          rw [if_neg (by decide), if_neg (by decide), if_neg h3]
theorem rcheckName (s : ByteArray) : Ev (fun k => POrder.beaconref02_CheckName.f k s) (nameE s) := by
  have hj : Ev (fun k => POrder.beaconref02_CheckName.j0 k s (s.size : Int) true) 21 := Ev.step (f := fun _ => some 21) (fun k => by simp only [POrder.beaconref02_CheckName.j0]; rfl) (Ev.now _)
  unfold POrder.beaconref02_CheckName.f
  by_cases h1 : s.size < 1
  · refine Ev.pos (by omega) ?_; rw [show nameE s = 21 by unfold nameE; rw [if_pos (by omega)]]; exact hj
  · refine Ev.neg (by omega) ?_
    by_cases h2 : 32 < s.size
    · refine Ev.pos (by omega) ?_; rw [show nameE s = 21 by unfold nameE; rw [if_pos (by omega)]]; exact hj
    · refine Ev.neg (by omega) (Ev.pos (by omega) ?_)
      rw [letter_eq]
      simp only [Option.bind_some]
      by_cases h3 : 97 ≤ bt s 0 ∧ bt s 0 ≤ 122
      · have hw : wrap64 ((s.size : Int) - 1) = (s.size : Int) - 1 := wrap_dn (by omega) (by omega)
        refine Ev.pos (by simpa using h3) ?_
        rw [hw]
        refine Ev.pos (by omega) (Ev.pos (by omega) ?_)
        by_cases h5 : bt s ((s.size : Int) - 1) = 45
        · rw [show nameE s = 21 by unfold nameE; rw [if_pos (by omega)], h5]; exact hj
        · have e : nameE s = if restOk s s.size 0 = true then 0 else 21 := by unfold nameE; rw [if_neg (by omega)]
          rw [e]
          refine Ev.step (f := fun k => POrder.beaconref02_CheckName.l0 k s (s.size : Int) ((0 : Nat) : Int)) (fun k => ?_) (rname_loop s (by omega) s.size 0 (by omega))
          simp only [POrder.beaconref02_CheckName.j0]
          rw [if_neg (by simpa using h5)]
          rfl
      · refine Ev.neg (by simpa using h3) ?_
        rw [show nameE s = 21 by unfold nameE; rw [if_pos (by omega)]]; exact hj

/-- why a number may not be -/
def idE (n : Int) : Int := if 1 ≤ n ∧ n ≤ 2147483647 then 0 else 20
theorem checkId (n : Int) : PScore.ident_CheckId.f n = some (idE n) := by
  unfold PScore.ident_CheckId.f idE; repeat' split
  all_goals (first | rfl | (exfalso; omega))
theorem rcheckId (n : Int) : POrder.beaconref02_CheckId.f n = some (idE n) := checkId n

/-- the sum of a text's bytes -/
def sumFrom (s : ByteArray) : Nat → Nat → Int → Int
  | 0, _, a => a
  | d + 1, i, a => sumFrom s d (i + 1) (IntKind.u64.wrap ((Go.bits .xor .u64 a (IntKind.u64.wrap (bt s i))) * 1099511628211))
def sumI (s : ByteArray) : Int := sumFrom s s.size 0 14695981039346656037
theorem sum_loop (s : ByteArray) (hs : s.size ≤ 9223372036854775807) : ∀ (d i : Nat) (a : Int), i + d = s.size → Ev (fun k => PScore.ident_Sum.l0 k s a (s.size : Int) (i : Int)) (sumFrom s d i a) := by
  intro d
  induction d with
  | zero =>
    intro i a hi
    exact Ev.step (f := fun _ => some a) (fun k => by simp only [PScore.ident_Sum.l0]; rw [if_neg (by omega)]) (Ev.now a)
  | succ d ih =>
    intro i a hi
    have hw : wrap64 ((i : Int) + 1) = ((i + 1 : Nat) : Int) := by unfold wrap64; omega
    refine Ev.step (fun k => ?_) (ih (i + 1) _ (by omega))
    simp only [PScore.ident_Sum.l0]
    rw [if_pos (by omega), if_pos (by omega), if_pos (by omega), hw]
theorem sum (s : ByteArray) (hs : s.size ≤ 9223372036854775807) : Ev (fun k => PScore.ident_Sum.f k s) (sumI s) := sum_loop s hs s.size 0 _ (by omega)
theorem rsum_loop (s : ByteArray) (hs : s.size ≤ 9223372036854775807) : ∀ (d i : Nat) (a : Int), i + d = s.size → Ev (fun k => POrder.beaconref02_Sum.l0 k s a (i : Int)) (sumFrom s d i a) := by
  intro d
  induction d with
  | zero =>
    intro i a hi
    exact Ev.step (f := fun _ => some a) (fun k => by simp only [POrder.beaconref02_Sum.l0]; rw [if_neg (by omega)]) (Ev.now a)
  | succ d ih =>
    intro i a hi
    have hw : wrap64 ((i : Int) + 1) = ((i + 1 : Nat) : Int) := by unfold wrap64; omega
    refine Ev.step (fun k => ?_) (ih (i + 1) _ (by omega))
    simp only [POrder.beaconref02_Sum.l0]
    rw [if_pos (by omega), if_pos (by omega), hw]
theorem rsum (s : ByteArray) (hs : s.size ≤ 9223372036854775807) : Ev (fun k => POrder.beaconref02_Sum.f k s) (sumI s) := rsum_loop s hs s.size 0 _ (by omega)

def mixI (x : Int) : Int := (PScore.ident_Mix.f x).getD 0
theorem mix (x : Int) : PScore.ident_Mix.f x = some (mixI x) := rfl
theorem rmix (x : Int) : POrder.beaconref02_Mix.f x = some (mixI x) := rfl
/-- how much a router wants a name of this sum -/
def scoreI (a z : Int) : Int := mixI (Go.bits .xor .u64 z (mixI (IntKind.u64.wrap a)))
theorem score (a z : Int) : PScore.ident_score.f a z = some (scoreI a z) := by
  unfold PScore.ident_score.f; rw [mix]; simp only [Option.bind_some]; rw [mix]; rfl
theorem rscore (a : Int) (s : ByteArray) (hs : s.size ≤ 9223372036854775807) : Ev (fun k => POrder.beaconref02_score.f k a s) (scoreI a (sumI s)) := by
  unfold POrder.beaconref02_score.f
  refine Ev.bind (rsum s hs) ?_
  simp only [rmix, Option.bind_some]
  exact Ev.now _
/-- of two routers the first wants the name more -/
def moreB (z a b : Int) : Bool := decide (scoreI b z < scoreI a z) || (decide (scoreI a z = scoreI b z) && decide (a < b))
theorem rmore (a b : Int) (s : ByteArray) (hs : s.size ≤ 9223372036854775807) : Ev (fun k => POrder.beaconref02_more.f k a b s) (moreB (sumI s) a b) := by
  unfold POrder.beaconref02_more.f
  refine Ev.bind (rscore a s hs) (Ev.bind (rscore b s hs) ?_)
  unfold moreB
  generalize scoreI a (sumI s) = x
  generalize scoreI b (sumI s) = y
  by_cases h : y < x
  · refine Ev.pos (by omega) ?_
    rw [show (decide (y < x) || (decide (x = y) && decide (a < b))) = true by simp [h]]; exact Ev.now _
  · refine Ev.neg (by omega) ?_
    by_cases h2 : x = y
    · refine Ev.pos h2 ?_
      rw [show (decide (y < x) || (decide (x = y) && decide (a < b))) = decide (a < b) by simp [h2]]; exact Ev.now _
    · refine Ev.neg h2 ?_
      rw [show (decide (y < x) || (decide (x = y) && decide (a < b))) = false by simp [h, h2]]; exact Ev.now _
def scoreW (a : Int) (s : ByteArray) : Int := if nameE s = 0 ∧ idE a = 0 then scoreI a (sumI s) else 0
def scoreE (a : Int) (s : ByteArray) : Int := if nameE s = 0 then idE a else nameE s
theorem scoreF (a : Int) (s : ByteArray) (hs : s.size ≤ 9223372036854775807) : Ev (fun k => PScore.ident_Score.f k a s) (scoreW a s, scoreE a s) := by
  unfold PScore.ident_Score.f
  refine Ev.bind (checkName s) ?_
  by_cases h : nameE s = 0
  · refine Ev.pos h ?_
    rw [checkId]; simp only [Option.bind_some]
    by_cases h2 : idE a = 0
    · refine Ev.pos h2 (Ev.bind (sum s hs) ?_)
      rw [score]; simp only [Option.bind_some]
      rw [show (scoreW a s, scoreE a s) = (scoreI a (sumI s), 0) by unfold scoreW scoreE; rw [if_pos ⟨h, h2⟩, if_pos h, h2]]
      exact Ev.now _
    · refine Ev.neg h2 ?_
      rw [show (scoreW a s, scoreE a s) = (0, idE a) by unfold scoreW scoreE; rw [if_neg (fun x => h2 x.2), if_pos h]]
      exact Ev.now _
  · refine Ev.neg h ?_
    rw [show (scoreW a s, scoreE a s) = (0, nameE s) by unfold scoreW scoreE; rw [if_neg (fun x => h x.1), if_neg h]]
    exact Ev.now _
end Go.Proofs.YtfmookfiakfioaaDoor.Idn
