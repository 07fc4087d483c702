/- The walks of MetricParses and MetricBack. Conditions: the library's variables lie as LibW says; the word fits 64 bits. -/
import Derived.Test.YtcpbanekjncekaaDoorPrr
import Derived.Stop.LaidErr
namespace Go.Proofs.YtcpbanekjncekaaDoor
open Go.RowKit Flt Go.Mem

theorem star_err : "*" ++ "errors.errorString" = "*errors.errorString" := by decide
theorem errRow (u : TypeId) (h : Tryd.prog.typeName? 3 u = some "*errors.errorString") : u = 86 :=
  typeName_ptr_named (nm := "errors.errorString") (by rw [star_err]; kernel_rfl) (by kernel_rfl) (by decide) u (by rw [star_err]; exact h)
theorem textE_ways (d : Nat) : textE d = 0 ∨ textE d = 5 := by
  unfold textE; cases isPinf d <;> cases toldB d <;> simp
theorem pinf_bits {d : Nat} (hd : d < 18446744073709551616) (h : isPinf d = true) : d = 9218868437227405312 := by
  unfold isPinf isinf at h
  simp only [Bool.and_eq_true, Bool.not_eq_true', decide_eq_true_eq] at h
  obtain ⟨h1, h2⟩ := h
  unfold sgn rung infR at *
  simp at *
  omega
theorem textL_len (q : Nat) (h : q ≤ 4398046511104) : (textL q).length ≤ 262144 := by
  have h1 := Lib.itoa_length_le ((q / 4 : Nat) : Int) (by omega) (by omega)
  rw [Lib.itoa_nonneg] at h1
  have h2 : (tailL (q % 4)).length ≤ 3 := by
    have h4 : q % 4 = 0 ∨ q % 4 = 1 ∨ q % 4 = 2 ∨ q % 4 = 3 := by omega
    rcases h4 with h4 | h4 | h4 | h4 <;> rw [h4] <;> decide
  unfold textL
  rw [List.length_append]
  omega
theorem textL_inf (q : Nat) : ¬ textL q = [105, 110, 102] := by
  intro h
  unfold textL at h
  have h1 := decDigits_bd (q / 4)
  cases hd : Lib.decDigits (q / 4) with
  | nil => exact absurd hd (decDigits_ne _)
  | cons c r =>
    rw [hd] at h h1
    have h2 := h1 c (by simp)
    have h3 : c = 105 := by injection h
    rw [h3] at h2
    have : (105 : UInt8).toNat = 105 := rfl
    omega
theorem back_ok (d : Nat) (hd : d < 18446744073709551616) (h : textE d = 0) : parseW (textB d) = d ∧ parseE (textB d) = 0 := by
  cases hp : isPinf d
  · cases ht : toldB d
    · unfold textE at h; rw [hp, ht] at h; exact absurd h (by decide)
    · obtain ⟨hq, hb, _, _⟩ := toldB_isQ hd ht
      obtain ⟨q, hqe⟩ : ∃ q, q = qOf d := ⟨_, rfl⟩
      rw [← hqe] at hq hb
      have hql : q ≤ 4398046511104 := by omega
      have e : d = qf (q : Int) := hq.toQf
      have hB := (textB_qf q hql).1
      rw [← e] at hB
      have hl := textL_len q hql
      have e1 : (textB d).data.toList = textL q := by rw [hB]
      have hx := parse_some (s := textB d) (q := q) (by
        have : (textB d).size = (textB d).data.toList.length := by
          show (textB d).data.size = _
          rw [Array.length_toList]
        rw [this, e1]; omega) (by rw [e1]; exact textL_inf q) (spells_of hql e1.symm)
      rw [← e] at hx; exact hx
  · have e := pinf_bits hd hp
    have hB : textB d = ⟨#[105, 110, 102]⟩ := by unfold textB; rw [hp]; rfl
    rw [hB]
    unfold parseW parseE
    rw [if_neg (by decide), if_pos rfl, if_neg (by decide), if_pos rfl]
    exact ⟨e.symm, rfl⟩
set_option maxHeartbeats 800000 in
theorem MetricParses_walk (s : ByteArray) (w : World) (_hs : s.size ≤ 140737488351232) (hl : LibW w) : Calls Tryd.prog 5 #[.string s] w fun e w' => e = .returned (.bool true) ∧ Below w.heap.size w w' := by
  have HL := Lib.hid hl
  clear hl
  go_enter Tryd.func5, Tryd.ntmps5
  go_wp2_with (go_at_call 11; refine (parse_any s _ HL.out).mono ?_; rintro e w1 ⟨rfl, hb1⟩)
  have HB1 := Lib.hid hb1
  clear hb1
  go_wp2_with (go_at_call 13; refine (rparse_any s _ (HL.out.below HB1.out)).mono ?_; rintro e w2 ⟨rfl, hb2⟩)
  have HB2 := Lib.hid hb2
  clear hb2
  go_wp2_with (first | (go_at_call 12; refine (same_any _ _ _).mono ?_; rintro e w' ⟨rfl, rfl⟩) | (go_at_call 10; refine (awake_any _).mono ?_; rintro e w' ⟨rfl, n, rfl⟩))
  go_ret
  exact ⟨rfl, below_drewN (HB1.out.trans (HB2.out.mono HB1.out.size)) _⟩
set_option maxHeartbeats 1600000 in
theorem MetricBack_walk (d : Nat) (w : World) (hd : d < 18446744073709551616) (hl : LibW w) : Calls Tryd.prog 4 #[.float .f64 d] w fun e w' => e = .returned (.bool true) ∧ Below w.heap.size w w' := by
  have HL := Lib.hid hl
  clear hl
  rcases textE_ways d with hE | hE
  · obtain ⟨H1, H2⟩ := back_ok d hd hE
    go_enter Tryd.func4, Tryd.ntmps4
    go_wp2_with (go_at_call 6; refine (text_any _ hd _ HL.out.pow).mono ?_; rw [hE]; rintro e w1 ⟨rfl, hb1⟩)
    have HB1 := Lib.hid hb1
    clear hb1
    go_wp2_with (go_at_call 11; refine (parse_any _ _ (HL.out.below HB1.out)).mono ?_; rw [H1, H2]; rintro e w2 ⟨rfl, hb2⟩)
    have HB2 := Lib.hid hb2
    clear hb2
    go_wp2_with (first | (go_at_call 12; refine (same_any _ _ _).mono ?_; rintro e w' ⟨rfl, rfl⟩) | (go_at_call 10; refine (awake_any _).mono ?_; rintro e w' ⟨rfl, n, rfl⟩))
    go_ret
    exact ⟨rfl, below_drewN (HB1.out.trans (HB2.out.mono HB1.out.size)) _⟩
  · go_enter Tryd.func4, Tryd.ntmps4
    go_wp2_with (go_at_call 6; refine (text_any _ hd _ HL.out.pow).mono ?_; rw [hE]; rintro e w1 ⟨rfl, hb1⟩)
    have HB1 := Lib.hid hb1
    clear hb1
    go_wp2_with (go_at_call 7; refine (rtext_any _ hd _ (HL.out.below HB1.out).pow).mono ?_; rw [hE]; rintro e w2 ⟨rfl, hb2⟩)
    have HB2 := Lib.hid hb2
    clear hb2
    go_wp2_with (first | (go_at_call 12; refine (same_any _ _ _).mono ?_; rintro e w' ⟨rfl, rfl⟩) | (go_at_call 10; refine (awake_any _).mono ?_; rintro e w' ⟨rfl, n, rfl⟩))
    go_ret
    exact ⟨rfl, below_drewN (HB1.out.trans (HB2.out.mono HB1.out.size)) _⟩

end Go.Proofs.YtcpbanekjncekaaDoor
