/- Texts of numbers, in plain words: what the reference's Text and Parse come to; what reads as a number and is written so is one thing. Plain Lean over the printed functions. Condition: a text below 2^63 bytes. -/
import Derived.Test.YtfmookfiakfioaaDoorIdt
import Derived.Test.YtfmookfiakfioaaDoorPTextx1
import Derived.Test.YtfmookfiakfioaaDoorPParsex1
import Derived.Lib.ParseIntBTie
import Derived.Lib.ItoaLen
namespace Go.Proofs.YtfmookfiakfioaaDoor.Idn
open Go Go.RowKit Go.Proofs.YtfmookfiakfioaaDoorW.PrintWords

theorem parseUintM_append (M : Nat) (l r : List UInt8) : ∀ acc, Lib.parseUintM M acc (l ++ r) = (match Lib.parseUintM M acc l with | .ok a => Lib.parseUintM M a r | e => e) := by
  induction l with
  | nil => intro acc; rfl
  | cons c l ih =>
    intro acc
    simp only [List.cons_append, Lib.parseUintM]
    split
    · split
      · rfl
      · split
        · rfl
        · exact ih _
    · rfl

theorem dig_toNat (d : Nat) (h : d < 10) : (UInt8.ofNat (48 + d)).toNat = 48 + d := by
  show (48 + d) % 256 = 48 + d
  exact Nat.mod_eq_of_lt (by omega)

/-- digits read as their number -/
theorem parse_dec (u : Nat) : u ≤ 9223372036854775807 → Lib.parseUintM 18446744073709551615 0 (Lib.decDigits u) = .ok u := by
  induction u using Nat.strongRecOn with
  | _ u ih =>
    intro hu
    rw [Lib.decDigits]
    split
    · rename_i h
      simp only [Lib.parseUintM, dig_toNat u h]
      rw [if_pos (by omega), if_neg (by omega), if_neg (by omega)]
      congr 1; omega
    · rename_i h
      rw [parseUintM_append, ih (u / 10) (by omega) (by omega)]
      simp only [Lib.parseUintM, dig_toNat (u % 10) (by omega)]
      rw [if_pos (by omega), if_neg (by omega), if_neg (by omega)]
      congr 1; omega
theorem decDigits_ne (u : Nat) : Lib.decDigits u ≠ [] := by
  rw [Lib.decDigits]; split <;> simp
theorem decDigits_bd (u : Nat) : ∀ c ∈ Lib.decDigits u, 48 ≤ c.toNat ∧ c.toNat ≤ 57 := by
  induction u using Nat.strongRecOn with
  | _ u ih =>
    intro c hc
    rw [Lib.decDigits] at hc
    split at hc
    · rename_i h
      rw [List.mem_singleton] at hc; subst hc; rw [dig_toNat u h]; omega
    · rename_i h
      rcases List.mem_append.1 hc with h1 | h1
      · exact ih (u / 10) (by omega) c h1
      · rw [List.mem_singleton] at h1; subst h1; rw [dig_toNat (u % 10) (by omega)]; omega
theorem parseUintB_dec (u : Nat) (hu : u ≤ 9223372036854775807) : Lib.parseUintB 64 (Lib.decDigits u) = .ok u := by
  unfold Lib.parseUintB
  rw [if_neg (decDigits_ne u)]
  exact parse_dec u hu
theorem parseIntB_dec (u : Nat) (hu : u ≤ 9223372036854775807) : Lib.parseIntB 64 (Lib.decDigits u) = .ok (u : Int) := by
  have hb := decDigits_bd u
  have hne := decDigits_ne u
  have hp := parseUintB_dec u hu
  cases hd : Lib.decDigits u with
  | nil => exact absurd hd hne
  | cons c r =>
    rw [hd] at hb hp
    have hc := hb c (by simp)
    unfold Lib.parseIntB
    simp only
    rw [if_neg (by omega), hp]
    simp only
    rw [if_neg (by omega), if_neg (by omega), if_neg (by omega)]


theorem dec_one (v : Nat) (h : v < 10) : Lib.decDigits v = [UInt8.ofNat (48 + v)] := by rw [Lib.decDigits, dif_pos h]
theorem dec_more (v : Nat) (h : 10 ≤ v) : Lib.decDigits v = Lib.decDigits (v / 10) ++ [UInt8.ofNat (48 + v % 10)] := by rw [Lib.decDigits, dif_neg (by omega)]
theorem dec_inj {u v : Nat} (hu : u ≤ 9223372036854775807) (hv : v ≤ 9223372036854775807) (h : Lib.decDigits u = Lib.decDigits v) : u = v := by
  have h1 := parse_dec u hu
  rw [h, parse_dec v hv] at h1
  injection h1 with h1; exact h1.symm
theorem dec_head (v : Nat) : 1 ≤ v → ∃ c t, Lib.decDigits v = c :: t ∧ c.toNat ≠ 48 := by
  induction v using Nat.strongRecOn with
  | _ v ih =>
    intro h1
    by_cases h : v < 10
    · exact ⟨_, [], dec_one v h, by rw [dig_toNat v h]; omega⟩
    · obtain ⟨c, t, e, hc⟩ := ih (v / 10) (by omega) (by omega)
      exact ⟨c, t ++ [UInt8.ofNat (48 + v % 10)], by rw [dec_more v (by omega), e]; rfl, hc⟩
theorem dec_len (k : Nat) : ∀ v, v < 10 ^ (k + 1) → (Lib.decDigits v).length ≤ k + 1 := by
  induction k with
  | zero => intro v hv; rw [dec_one v (by simpa using hv)]; simp
  | succ k ih =>
    intro v hv
    by_cases h : v < 10
    · rw [dec_one v h]; simp
    · have := ih (v / 10) (by rw [Nat.pow_succ] at hv; omega)
      rw [dec_more v (by omega), List.length_append]; simp; omega
/-- the number that digits are -/
def val (l : List UInt8) : Nat := l.foldl (fun a c => a * 10 + (c.toNat - 48)) 0
theorem val_snoc (l : List UInt8) (c : UInt8) : val (l ++ [c]) = val l * 10 + (c.toNat - 48) := by unfold val; rw [List.foldl_append]; rfl
def Digs (l : List UInt8) : Prop := ∀ c ∈ l, 48 ≤ c.toNat ∧ c.toNat ≤ 57
theorem val_dec (v : Nat) : val (Lib.decDigits v) = v := by
  induction v using Nat.strongRecOn with
  | _ v ih =>
    by_cases h : v < 10
    · rw [dec_one v h]; show 0 * 10 + ((UInt8.ofNat (48 + v)).toNat - 48) = v; rw [dig_toNat v h]; omega
    · rw [dec_more v (by omega), val_snoc, ih (v / 10) (by omega), dig_toNat (v % 10) (by omega)]; omega
theorem val_lt (l : List UInt8) : ∀ n, l.length = n → Digs l → val l < 10 ^ n := by
  intro n
  induction n generalizing l with
  | zero => intro h _; rw [List.eq_nil_of_length_eq_zero h]; decide
  | succ n ih =>
    intro h hd
    obtain ⟨l', c, rfl⟩ : ∃ l' c, l = l' ++ [c] := ⟨l.dropLast, l.getLast (by intro e; rw [e] at h; cases h), (List.dropLast_concat_getLast _).symm⟩
    have h1 := ih l' (by simpa using h) (fun x hx => hd x (List.mem_append_left _ hx))
    have h2 := hd c (by simp)
    rw [val_snoc, Nat.pow_succ]; omega
theorem dec_val (n : Nat) : ∀ l : List UInt8, l.length = n + 1 → Digs l → (∀ c, l.head? = some c → c.toNat ≠ 48) → Lib.decDigits (val l) = l ∧ 1 ≤ val l := by
  induction n with
  | zero =>
    intro l h hd hh
    match l, h with
    | [c], _ =>
      have h1 := hd c (by simp)
      have h2 := hh c rfl
      have hv : val [c] = c.toNat - 48 := by show 0 * 10 + (c.toNat - 48) = _; omega
      rw [hv]
      refine ⟨?_, by omega⟩
      rw [dec_one _ (by omega)]
      congr 1
      apply UInt8.toNat_inj.1
      rw [dig_toNat _ (by omega)]; omega
  | succ n ih =>
    intro l h hd hh
    obtain ⟨l', c, rfl⟩ : ∃ l' c, l = l' ++ [c] := ⟨l.dropLast, l.getLast (by intro e; rw [e] at h; cases h), (List.dropLast_concat_getLast _).symm⟩
    have hl' : l'.length = n + 1 := by simpa using h
    obtain ⟨h1, h2⟩ := ih l' hl' (fun x hx => hd x (List.mem_append_left _ hx)) (fun x hx => hh x (by rw [List.head?_append, hx]; rfl))
    have h3 := hd c (by simp)
    rw [val_snoc]
    refine ⟨?_, by omega⟩
    rw [dec_more _ (by omega), show (val l' * 10 + (c.toNat - 48)) / 10 = val l' by omega, show (val l' * 10 + (c.toNat - 48)) % 10 = c.toNat - 48 by omega, h1]
    congr 2
    apply UInt8.toNat_inj.1
    rw [dig_toNat _ (by omega)]; omega

/-- the text is the number's -/
def Reads (s : ByteArray) (v : Nat) : Prop := s.data.toList = 110 :: Lib.decDigits v ∧ 1 ≤ v ∧ v ≤ 2147483647
open Classical in
noncomputable def parseW (s : ByteArray) : Int := if h : ∃ v, Reads s v then (h.choose : Int) else 0
open Classical in
noncomputable def parseE (s : ByteArray) : Int := if ∃ v, Reads s v then 0 else 5
theorem parse_yes {s : ByteArray} {v : Nat} (h : Reads s v) : parseW s = (v : Int) ∧ parseE s = 0 := by
  have hx : ∃ v, Reads s v := ⟨v, h⟩
  unfold parseW parseE
  rw [dif_pos hx, if_pos hx]
  refine ⟨?_, rfl⟩
  have h2 := hx.choose_spec
  have e : Lib.decDigits hx.choose = Lib.decDigits v := by
    have := h2.1.symm.trans h.1
    injection this
  have := dec_inj (by have := h2.2.2; omega) (by have := h.2.2; omega) e
  omega
theorem parse_no {s : ByteArray} (h : ∀ v, ¬ Reads s v) : parseW s = 0 ∧ parseE s = 5 := by
  have hx : ¬ ∃ v, Reads s v := fun ⟨v, hv⟩ => h v hv
  unfold parseW parseE
  rw [dif_neg hx, if_neg hx]; exact ⟨rfl, rfl⟩
theorem ba_size (s : ByteArray) : s.size = s.data.toList.length := by show s.data.size = _; rw [Array.length_toList]
theorem bt_list (s : ByteArray) (i : Nat) (c : UInt8) (h : s.data.toList[i]? = some c) : bt s (i : Int) = (c.toNat : Int) := by
  have hi : i < s.size := by
    rw [ba_size]
    rcases Nat.lt_or_ge i s.data.toList.length with h2 | h2
    · exact h2
    · rw [List.getElem?_eq_none h2] at h; cases h
  unfold bt
  have hi2 : ((i : Int)).toNat < s.size := by simpa using hi
  rw [dif_pos hi2]
  have : s[((i : Int)).toNat]'hi2 = c := by
    have h3 : s.data.toList[i]? = some (s[((i : Int)).toNat]'hi2) := by
      rw [List.getElem?_eq_getElem (by rw [← ba_size]; exact hi)]; rfl
    rw [h3] at h; exact Option.some.inj h
  rw [this]
theorem pdigit_eq (c : Int) : PParse.beaconref02_digit.f c = some (decide (48 ≤ c) && decide (c ≤ 57)) := by
  unfold PParse.beaconref02_digit.f
  split <;> (congr 1; simp; omega)
theorem wrap_small {x : Int} (h0 : 0 ≤ x) (h : x ≤ 9223372036854775807) : wrap64 x = x := by unfold wrap64; omega
theorem wrap_dig (V C : Nat) (hV : V ≤ 9999999999) (h0 : 48 ≤ C) (h1 : C ≤ 57) : wrap64 (wrap64 ((V : Int) * 10) + ((C : Int) - 48) % 256) = ((V * 10 + (C - 48) : Nat) : Int) := by
  rw [wrap_small (x := (V : Int) * 10) (by omega) (by omega), Int.emod_eq_of_lt (by omega) (by omega), wrap_small (by omega) (by omega)]
  omega
theorem pow_le10 {n : Nat} (h : n ≤ 10) : 10 ^ n ≤ 10000000000 := Nat.le_trans (Nat.pow_le_pow_right (by omega) h) (by decide)
theorem rparse_loop (s : ByteArray) (hh : ∀ c, s.data.toList[1]? = some c → c.toNat ≠ 48) : ∀ (r p : List UInt8), s.data.toList = 110 :: (p ++ r) → Digs p → p.length + r.length ≤ 10 → 1 ≤ p.length + r.length →
    Ev (fun k => PParse.beaconref02_Parse.l0 k s (val p : Int) ((1 + p.length : Nat) : Int)) (parseW s, parseE s) := by
  intro r
  induction r with
  | nil =>
    intro p hs hp hl h1
    have hsz : s.size = 1 + p.length := by rw [ba_size, hs]; simp; omega
    rw [List.append_nil] at hs
    have hv : Lib.decDigits (val p) = p ∧ 1 ≤ val p := by
      refine dec_val (p.length - 1) p (by simp at h1; omega) hp (fun c hc => hh c ?_)
      rw [hs]; cases p with
      | nil => cases hc
      | cons a t => exact hc
    by_cases hM : val p ≤ 2147483647
    · have hR : Reads s (val p) := ⟨by rw [hs, hv.1], hv.2, hM⟩
      obtain ⟨e1, e2⟩ := parse_yes hR
      rw [e1, e2]
      refine Ev.step (f := fun _ => some ((val p : Int), 0)) (fun k => ?_) (Ev.now _)
      simp only [PParse.beaconref02_Parse.l0]
      rw [if_neg (by omega), if_neg (by omega)]
    · obtain ⟨e1, e2⟩ := parse_no (s := s) (fun v ⟨h2, h3, h4⟩ => by
        rw [hs] at h2
        injection h2 with _ h2
        have := val_dec v
        rw [← h2] at this
        omega)
      rw [e1, e2]
      refine Ev.step (f := fun _ => some (0, 5)) (fun k => ?_) (Ev.now _)
      simp only [PParse.beaconref02_Parse.l0]
      rw [if_neg (by omega), if_pos (by omega)]
  | cons c r ih =>
    intro p hs hp hl h1
    have hsz : s.size = 2 + p.length + r.length := by rw [ba_size, hs]; simp; omega
    have hc : bt s ((1 + p.length : Nat) : Int) = (c.toNat : Int) := bt_list s _ c (by rw [hs]; rw [Nat.add_comm, List.getElem?_cons_succ, List.getElem?_append_right (by omega)]; simp)
    by_cases hd : 48 ≤ c.toNat ∧ c.toNat ≤ 57
    · have ih := ih (p ++ [c]) (by rw [hs]; simp) (fun x hx => by
        rcases List.mem_append.1 hx with h | h
        · exact hp x h
        · simp at h; subst h; exact hd) (by simp at hl ⊢; omega) (by simp; omega)
      have hlt := val_lt p p.length rfl hp
      have h10 := pow_le10 (n := p.length) (by simp at hl; omega)
      refine Ev.step (fun k => ?_) ih
      simp only [PParse.beaconref02_Parse.l0]
      rw [if_pos (by omega), if_pos (by omega), hc, pdigit_eq]
      simp only [Option.bind_some]
      rw [if_pos (by simp; omega)]
      have e1 : wrap64 (wrap64 ((val p : Int) * 10) + ((c.toNat : Int) - 48) % 256) = ((val (p ++ [c]) : Nat) : Int) := by
        rw [val_snoc]
        exact wrap_dig (val p) c.toNat (by omega) hd.1 hd.2
      have e2 : wrap64 (((1 + p.length : Nat) : Int) + 1) = ((1 + (p ++ [c]).length : Nat) : Int) := by
        rw [List.length_append]; unfold wrap64; simp; omega
      rw [e1, e2]
    · obtain ⟨e1, e2⟩ := parse_no (s := s) (fun v ⟨h2, h3, h4⟩ => by
        rw [hs] at h2
        injection h2 with _ h2
        exact hd (decDigits_bd v c (by rw [← h2]; simp)))
      rw [e1, e2]
      refine Ev.step (f := fun _ => some (0, 5)) (fun k => ?_) (Ev.now _)
      simp only [PParse.beaconref02_Parse.l0]
      rw [if_pos (by omega), if_pos (by omega), hc, pdigit_eq]
      simp only [Option.bind_some]
      rw [if_neg (by simp; omega)]
theorem rparse (s : ByteArray) : Ev (fun k => PParse.beaconref02_Parse.f k s) (parseW s, parseE s) := by
  have hj : Ev (fun k => PParse.beaconref02_Parse.j0 k s true) (0, 5) := Ev.step (f := fun _ => some (0, 5)) (fun k => by simp only [PParse.beaconref02_Parse.j0]; rfl) (Ev.now _)
  unfold PParse.beaconref02_Parse.f
  have no : (∀ v, ¬ Reads s v) → (parseW s, parseE s) = (0, 5) := fun h => by rw [(parse_no h).1, (parse_no h).2]
  by_cases h1 : s.size < 2
  · refine Ev.pos (by omega) ?_
    rw [no (fun v ⟨h, h2, _⟩ => by
      have := congrArg List.length h
      rw [← ba_size] at this
      obtain ⟨c, t, e, _⟩ := dec_head v h2
      rw [e] at this; simp at this; omega)]
    exact hj
  · refine Ev.neg (by omega) ?_
    by_cases h2 : s.size > 11
    · refine Ev.pos (by omega) ?_
      rw [no (fun v ⟨h, _, h3⟩ => by
        have := congrArg List.length h
        rw [← ba_size] at this
        have h4 := dec_len 9 v (by omega)
        simp at this; omega)]
      exact hj
    · refine Ev.neg (by omega) (Ev.pos (by omega) ?_)
      match hs : s.data.toList with
      | [] => rw [ba_size, hs] at h1; simp at h1
      | [a] => rw [ba_size, hs] at h1; simp at h1
      | a :: c :: r =>
        have hb0 : bt s 0 = (a.toNat : Int) := bt_list s 0 a (by rw [hs]; rfl)
        have hb1 : bt s 1 = (c.toNat : Int) := bt_list s 1 c (by rw [hs]; rfl)
        rw [hb0, hb1]
        have hsz : s.size = 2 + r.length := by rw [ba_size, hs]; simp; omega
        by_cases ha : a.toNat = 110
        · refine Ev.pos (by omega) (Ev.pos (by omega) ?_)
          obtain rfl : a = 110 := UInt8.toNat_inj.1 ha
          by_cases hc : c.toNat = 48
          · rw [no (fun v ⟨h, h2, _⟩ => by
              rw [hs] at h
              injection h with _ h
              obtain ⟨x, t, e, hx⟩ := dec_head v h2
              rw [e] at h
              injection h with h _
              rw [h] at hc; exact hx hc), hc]
            exact hj
          · refine Ev.step (f := fun k => PParse.beaconref02_Parse.l0 k s 0 1) (fun k => ?_) (rparse_loop s (fun x hx => ?_) (c :: r) [] (by rw [hs]; rfl) (fun x hx => by simp at hx) (by simp; omega) (by simp))
            · simp only [PParse.beaconref02_Parse.j0]
              rw [if_neg (by simp; omega)]
            · rw [hs] at hx
              obtain rfl : c = x := by simpa using hx
              exact hc
        · refine Ev.neg (by omega) ?_
          rw [no (fun v ⟨h, _, _⟩ => by rw [hs] at h; injection h with h _; rw [h] at ha; exact ha rfl)]
          exact hj
end Go.Proofs.YtfmookfiakfioaaDoor.Idn
