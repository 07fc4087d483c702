/- Reading a distance's text: what the text of so many quarters reads as, and that what reads so and is written so is one thing. Plain Lean: no program. Condition: none beyond each theorem's own hypotheses. -/
import Derived.Test.YtjcgachdnkdamaaDoorTxt
import Derived.Lib.ParseIntB
import Derived.Lib.IndexMore
import Derived.Lib.IndexBytes
import Derived.Lib.ItoaMem
namespace Flt
open Ieee Go

theorem parseUintM_append (M : Nat) (l r : List UInt8) : ∀ acc, Lib.parseUintM M acc (l ++ r) = (match Lib.parseUintM M acc l with | .ok a => Lib.parseUintM M a r | e => e) := by
  induction l with
  | nil => intro acc; rfl
  | cons c l ih =>
    intro acc
    simp only [List.cons_append, Lib.parseUintM]
    split
    · split
      · rfl
      · split
        · rfl
        · exact ih _
    · rfl

theorem dig_toNat (d : Nat) (h : d < 10) : (UInt8.ofNat (48 + d)).toNat = 48 + d := by
  show (48 + d) % 256 = 48 + d
  exact Nat.mod_eq_of_lt (by omega)

/-- digits read as their number -/
theorem parse_dec (u : Nat) : u ≤ 9223372036854775807 → Lib.parseUintM 18446744073709551615 0 (Lib.decDigits u) = .ok u := by
  induction u using Nat.strongRecOn with
  | _ u ih =>
    intro hu
    rw [Lib.decDigits]
    split
    · rename_i h
      simp only [Lib.parseUintM, dig_toNat u h]
      rw [if_pos (by omega), if_neg (by omega), if_neg (by omega)]
      congr 1; omega
    · rename_i h
      rw [parseUintM_append, ih (u / 10) (by omega) (by omega)]
      simp only [Lib.parseUintM, dig_toNat (u % 10) (by omega)]
      rw [if_pos (by omega), if_neg (by omega), if_neg (by omega)]
      congr 1; omega
theorem decDigits_ne (u : Nat) : Lib.decDigits u ≠ [] := by
  rw [Lib.decDigits]; split <;> simp
theorem decDigits_bd (u : Nat) : ∀ c ∈ Lib.decDigits u, 48 ≤ c.toNat ∧ c.toNat ≤ 57 := by
  induction u using Nat.strongRecOn with
  | _ u ih =>
    intro c hc
    rw [Lib.decDigits] at hc
    split at hc
    · rename_i h
      rw [List.mem_singleton] at hc; subst hc; rw [dig_toNat u h]; omega
    · rename_i h
      rcases List.mem_append.1 hc with h1 | h1
      · exact ih (u / 10) (by omega) c h1
      · rw [List.mem_singleton] at h1; subst h1; rw [dig_toNat (u % 10) (by omega)]; omega
theorem parseUintB_dec (u : Nat) (hu : u ≤ 9223372036854775807) : Lib.parseUintB 64 (Lib.decDigits u) = .ok u := by
  unfold Lib.parseUintB
  rw [if_neg (decDigits_ne u)]
  exact parse_dec u hu
theorem parseIntB_dec (u : Nat) (hu : u ≤ 9223372036854775807) : Lib.parseIntB 64 (Lib.decDigits u) = .ok (u : Int) := by
  have hb := decDigits_bd u
  have hne := decDigits_ne u
  have hp := parseUintB_dec u hu
  cases hd : Lib.decDigits u with
  | nil => exact absurd hd hne
  | cons c r =>
    rw [hd] at hb hp
    have hc := hb c (by simp)
    unfold Lib.parseIntB
    simp only
    rw [if_neg (by omega), hp]
    simp only
    rw [if_neg (by omega), if_neg (by omega), if_neg (by omega)]

/-- the tail of so many quarters, behind the point; and as it is found -/
def tailL (r : Nat) : List UInt8 := (tailB (r : Int)).data.toList
theorem indexByte_at (a : List UInt8) (c : UInt8) (b : List UInt8) (h : ∀ x ∈ a, x ≠ c) : Lib.indexByte (a ++ c :: b) c = a.length := by
  rw [← Lib.index_one]
  refine Lib.index_first (by simp) ?_ ?_
  · unfold Lib.occAt; simp [List.isPrefixOf]
  · intro j hj
    unfold Lib.occAt
    rw [List.drop_append_of_le_length (by omega)]
    have : a.drop j = a[j] :: a.drop (j + 1) := by rw [List.drop_eq_getElem_cons hj]
    rw [this]
    simp only [List.cons_append, List.isPrefixOf]
    have := h a[j] (List.getElem_mem _)
    simp [Ne.symm this]
theorem index_absent (a : List UInt8) (c : UInt8) (h : ∀ x ∈ a, x ≠ c) : Lib.index a [c] = -1 := by
  refine Lib.index_none fun j _ => ?_
  unfold Lib.occAt
  cases hd : a.drop j with
  | nil => rfl
  | cons x r =>
    have hx : x ∈ a := List.mem_of_mem_drop (by rw [hd]; simp)
    simp [List.isPrefixOf, Ne.symm (h x hx)]
theorem cut_at (a b : List UInt8) (h : ∀ x ∈ a, x ≠ 46) : Lib.cut (a ++ 46 :: b) [46] = (a, b, true) := by
  unfold Lib.cut
  rw [Lib.index_one, indexByte_at a 46 b h]
  simp
theorem cut_absent (a : List UInt8) (h : ∀ x ∈ a, x ≠ 46) : Lib.cut a [46] = (a, [], false) := by
  unfold Lib.cut
  rw [index_absent a 46 h]
  simp

/-- how many quarters the part behind the point is -/
def partV (p : List UInt8) : Nat := if p = [50, 53] then 1 else if p = [53] then 2 else if p = [55, 53] then 3 else 0
/-- the text of q quarters -/
def textL (q : Nat) : List UInt8 := Lib.decDigits (q / 4) ++ tailL (q % 4)
theorem cut_text (q : Nat) : (Lib.cut (textL q) [46]).1 = Lib.decDigits (q / 4) ∧ partV (Lib.cut (textL q) [46]).2.1 = q % 4 := by
  have hb : ∀ x ∈ Lib.decDigits (q / 4), x ≠ 46 := by
    intro x hx e
    have := decDigits_bd _ x hx
    rw [e] at this
    have : (46 : UInt8).toNat = 46 := rfl
    omega
  unfold textL
  have h4 : q % 4 = 0 ∨ q % 4 = 1 ∨ q % 4 = 2 ∨ q % 4 = 3 := by omega
  rcases h4 with h4 | h4 | h4 | h4 <;> rw [h4]
  · have : tailL 0 = [] := by decide
    rw [this, List.append_nil, cut_absent _ hb]; exact ⟨rfl, rfl⟩
  · have : tailL 1 = 46 :: [50, 53] := by decide
    rw [this, cut_at _ _ hb]; exact ⟨rfl, rfl⟩
  · have : tailL 2 = 46 :: [53] := by decide
    rw [this, cut_at _ _ hb]; exact ⟨rfl, rfl⟩
  · have : tailL 3 = 46 :: [55, 53] := by decide
    rw [this, cut_at _ _ hb]; exact ⟨rfl, rfl⟩
/-- the text tells the number -/
theorem textL_inj {q q' : Nat} (h1 : q ≤ 36893488147419103228) (h2 : q' ≤ 36893488147419103228) (h : textL q = textL q') : q = q' := by
  have a := cut_text q
  have b := cut_text q'
  rw [h] at a
  have e1 : Lib.decDigits (q / 4) = Lib.decDigits (q' / 4) := a.1.symm.trans b.1
  have e2 : q % 4 = q' % 4 := a.2.symm.trans b.2
  have p1 := parseUintB_dec (q / 4) (by omega)
  have p2 := parseUintB_dec (q' / 4) (by omega)
  rw [e1, p2] at p1
  injection p1 with p1
  omega
theorem textB_qf (q : Nat) (h : q ≤ 4398046511104) : textB (qf (q : Int)) = ⟨(textL q).toArray⟩ ∧ textE (qf (q : Int)) = 0 := by
  have hq := qf_isQ (n := (q : Int)) (by omega)
  obtain ⟨t1, t2⟩ := toldB_of hq h
  have hi : isPinf (qf (q : Int)) = false := by unfold isPinf; rw [hq.inf]; rfl
  unfold textB textE
  rw [hi, t1, t2]
  refine ⟨?_, rfl⟩
  simp only [Bool.false_eq_true, if_false, if_true]
  have e1 : (q : Int) / 4 = ((q / 4 : Nat) : Int) := by omega
  have e2 : (q : Int) % 4 = ((q % 4 : Nat) : Int) := by omega
  rw [e1, e2]
  unfold itoaB textL tailL
  rw [Lib.itoa_nonneg]
  apply ByteArray.ext
  rw [ByteArray.data_append]
  simp
/-- a float that is too great has no text -/
theorem textE_big (q : Nat) (h : 4398046511104 < q) (h2 : q < 4503599627370496) : textE (qf (q : Int)) = 5 := by
  have hq := qf_isQ (n := (q : Int)) (by omega)
  have hi : isPinf (qf (q : Int)) = false := by unfold isPinf; rw [hq.inf]; rfl
  have ht : toldB (qf (q : Int)) = false := by
    unfold toldB
    rw [hq.nan, hq.sg, hq.ltQ big_isQ, hq.eqQ big_isQ, ← Bool.decide_or, decide_eq_false (by omega : ¬ ((q : Int) < 4398046511104 ∨ (q : Int) = 4398046511104))]
    simp
  unfold textE; rw [hi, ht]; rfl
open Classical in
noncomputable def spells (l : List UInt8) : Option Nat := if h : ∃ q, q ≤ 4398046511104 ∧ textL q = l then some h.choose else none
theorem spells_of {l : List UInt8} {q : Nat} (h1 : q ≤ 4398046511104) (h2 : textL q = l) : spells l = some q := by
  have hx : ∃ q, q ≤ 4398046511104 ∧ textL q = l := ⟨q, h1, h2⟩
  unfold spells; rw [dif_pos hx]
  congr 1
  exact textL_inj (by have := hx.choose_spec.1; omega) (by omega) (hx.choose_spec.2.trans h2.symm)
theorem spells_some {l : List UInt8} {q : Nat} (h : spells l = some q) : q ≤ 4398046511104 ∧ textL q = l := by
  unfold spells at h
  split at h
  · rename_i hx
    injection h with h
    rw [← h]; exact hx.choose_spec
  · cases h
theorem spells_none {l : List UInt8} (h : spells l = none) : ∀ q, q ≤ 4398046511104 → textL q ≠ l := by
  intro q h1 h2
  rw [spells_of h1 h2] at h; cases h
/-- what Parse answers -/
noncomputable def parseW (s : ByteArray) : Nat := if 262144 < s.size then 0 else if s.data.toList = [105, 110, 102] then 9218868437227405312 else match spells s.data.toList with
  | some q => qf (q : Int)
  | none => 0
noncomputable def parseE (s : ByteArray) : Int := if 262144 < s.size then 3 else if s.data.toList = [105, 110, 102] then 0 else match spells s.data.toList with
  | some _ => 0
  | none => 5
end Flt
namespace Flt
open Ieee Go
theorem ba_loop (b : ByteArray) : ∀ (n i : Nat) (r : List UInt8), b.size - i = n → ByteArray.toList.loop b i r = r.reverse ++ b.data.toList.drop i := by
  intro n
  induction n with
  | zero =>
    intro i r h
    have h2 : b.data.toList.length ≤ i := by have : b.size = b.data.size := rfl; simp; omega
    rw [ByteArray.toList.loop, if_neg (by omega), List.drop_eq_nil_of_le h2, List.append_nil]
  | succ n ih =>
    intro i r h
    rw [ByteArray.toList.loop, if_pos (by omega), ih (i + 1) _ (by omega)]
    have hi : i < b.data.toList.length := by have : b.size = b.data.size := rfl; simp; omega
    rw [List.drop_eq_getElem_cons hi, List.reverse_cons, List.append_assoc]
    have e : b.get! i = b.data.toList[i] := by
      have h3 : i < b.data.size := by simpa using hi
      show b.data[i]! = _
      rw [getElem!_pos b.data i h3]; simp
    rw [e]; rfl
theorem ba_toList (b : ByteArray) : b.toList = b.data.toList := by
  unfold ByteArray.toList
  rw [ba_loop b b.size 0 [] (by omega)]; simp

/-- the two sides of the first point -/
def cutA (s : ByteArray) : ByteArray := ⟨(Lib.cut s.data.toList [46]).1.toArray⟩
def cutB (s : ByteArray) : ByteArray := ⟨(Lib.cut s.data.toList [46]).2.1.toArray⟩
def cutF (s : ByteArray) : Bool := (Lib.cut s.data.toList [46]).2.2
theorem cutA_size (s : ByteArray) : (cutA s).size ≤ s.size := by
  have e : (cutA s).size = (Lib.cut s.data.toList [46]).1.length := by
    unfold cutA
    show (Array.size (List.toArray _)) = _
    rw [List.size_toArray]
  have e2 : s.size = s.data.toList.length := by
    show s.data.size = _
    rw [Array.length_toList]
  rw [e, e2]
  unfold Lib.cut
  split
  · show (List.take _ _).length ≤ _
    rw [List.length_take]; omega
  · exact Nat.le_refl _
theorem spells_bad {s : ByteArray} (h : ∀ u, Lib.parseUintB 64 (cutA s).data.toList ≠ .ok u) : spells s.data.toList = none := by
  cases hs : spells s.data.toList with
  | none => rfl
  | some q =>
    obtain ⟨h1, h2⟩ := spells_some hs
    have := cut_text q
    rw [h2] at this
    have e : (cutA s).data.toList = Lib.decDigits (q / 4) := by rw [← this.1]; rfl
    exact absurd (by rw [e]; exact parseUintB_dec _ (by omega)) (h (q / 4))
theorem spells_at {s : ByteArray} {u q : Nat} (h : Lib.parseUintB 64 (cutA s).data.toList = .ok u) (hs : spells s.data.toList = some q) : q = 4 * u + partV (cutB s).data.toList := by
  obtain ⟨h1, h2⟩ := spells_some hs
  have := cut_text q
  rw [h2] at this
  have e : (cutA s).data.toList = Lib.decDigits (q / 4) := by rw [← this.1]; rfl
  have e2 : partV (cutB s).data.toList = q % 4 := by rw [← this.2]; rfl
  rw [e, parseUintB_dec _ (by omega)] at h
  injection h with h
  omega
theorem spells_ne {s : ByteArray} {u : Nat} (h : Lib.parseUintB 64 (cutA s).data.toList = .ok u) (hn : 4398046511104 < 4 * u + partV (cutB s).data.toList ∨ textL (4 * u + partV (cutB s).data.toList) ≠ s.data.toList) : spells s.data.toList = none := by
  cases hs : spells s.data.toList with
  | none => rfl
  | some q =>
    have e := spells_at h hs
    obtain ⟨h1, h2⟩ := spells_some hs
    rw [← e] at hn
    rcases hn with hn | hn
    · omega
    · exact absurd h2 hn
theorem partV_lt (p : List UInt8) : partV p ≤ 3 := by unfold partV; repeat' split
                                                      all_goals omega
/-- the quarter's float -/
def partF (r : Nat) : Nat := if r = 1 then 4598175219545276416 else if r = 2 then 4602678819172646912 else if r = 3 then 4604930618986332160 else 0
theorem partF_isQ (r : Nat) (h : r ≤ 3) : IsQ (partF r) (r : Int) := by
  have hq : ∀ n : Nat, n ≤ 3 → ∀ b, floatBits .quo .f64 (floatOfInt .f64 (n : Int)) 4616189618054758400 = some b → IsQ b (n : Int) := by
    intro n hn b hb
    rw [div4_qf (by omega)] at hb
    cases hb
    exact qf_isQ (by omega)
  have h4 : r = 0 ∨ r = 1 ∨ r = 2 ∨ r = 3 := by omega
  rcases h4 with rfl | rfl | rfl | rfl
  · exact zero_isQ
  · exact hq 1 (by omega) _ (by decide +kernel)
  · exact hq 2 (by omega) _ (by decide +kernel)
  · exact hq 3 (by omega) _ (by decide +kernel)
theorem add_part (u : Nat) (hu : u ≤ 1099511627776) (r : Nat) (hr : r ≤ 3) : floatBits .add .f64 (floatOfInt .f64 (u : Int)) (partF r) = some (qf ((4 * u + r : Nat) : Int)) := by
  obtain ⟨c, h1, h2⟩ := (ofInt_isQ (u : Int) (by omega)).add (partF_isQ r hr) (by omega)
  have e : 4 * (u : Int) + (r : Int) = ((4 * u + r : Nat) : Int) := by omega
  rw [e] at h2
  rw [← h2.toQf]; exact h1
end Flt
namespace Flt
open Ieee Go
theorem intV_dec {V : List UInt8 → Int} (hV : ∀ l v, Lib.parseIntB 64 l = .ok v → V l = v) (m : Nat) (h : m ≤ 9223372036854775807) : V (Lib.decDigits m) = (m : Int) := hV _ _ (parseIntB_dec m h)
theorem ba_extract (s : ByteArray) (i j : Nat) : (s.extract i j).data.toList = (s.data.toList.drop i).take (j - i) := by
  rw [ByteArray.data_extract, Array.toList_extract, List.extract]
/-- what a text with a tail looks like from its end -/
theorem tail_of {s : ByteArray} {z K : Nat} (hz : spells s.data.toList = some z) (hk : z % 4 = K) :
    (tailL K).length ≤ s.size ∧ (s.extract (s.size - (tailL K).length) s.size).toList = tailL K ∧ (s.extract 0 (s.size - (tailL K).length)).data.toList = Lib.decDigits (z / 4) ∧ z ≤ 4398046511104 ∧ textL z = s.data.toList := by
  obtain ⟨h1, h2⟩ := spells_some hz
  have e : s.data.toList = Lib.decDigits (z / 4) ++ tailL K := by rw [← h2, ← hk]; rfl
  have e2 : s.size = (Lib.decDigits (z / 4)).length + (tailL K).length := by
    have : s.size = s.data.toList.length := by
      show s.data.size = _
      rw [Array.length_toList]
    rw [this, e, List.length_append]
  refine ⟨by omega, ?_, ?_, h1, h2⟩
  · rw [ba_toList, ba_extract, e, e2, Nat.add_sub_cancel, List.drop_left, Nat.add_sub_cancel_left, List.take_length]
  · rw [ba_extract, e, e2, Nat.add_sub_cancel, Nat.sub_zero, List.drop_zero, List.take_left]
theorem tail_at {s : ByteArray} {z K L : Nat} {T : List UInt8} (hT : tailL K = T) (hL : T.length = L) (hz : spells s.data.toList = some z) (hk : z % 4 = K) :
    L ≤ s.size ∧ (s.extract (s.size - L) s.size).toList = T ∧ (s.extract 0 (s.size - L)).data.toList = Lib.decDigits (z / 4) ∧ z ≤ 4398046511104 ∧ textL z = s.data.toList := by
  subst hT hL
  exact tail_of hz hk
theorem round_step {l : List UInt8} {k k' : Int} {K : Nat} (hk : k = K) (hk' : k' = K + 1) (h : ∀ z : Nat, spells l = some z → k ≤ (z : Int) % 4) (h2 : ∀ z : Nat, spells l = some z → z % 4 = K → False) :
    ∀ z : Nat, spells l = some z → k' ≤ (z : Int) % 4 := by
  intro z hz
  have a := h z hz
  have b : ¬ z % 4 = K := h2 z hz
  omega
end Flt
