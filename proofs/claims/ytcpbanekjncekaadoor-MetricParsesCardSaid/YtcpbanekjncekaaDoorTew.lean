/- The walk of Text, the reference's. Conditions: as Tex's. -/
import Derived.Test.YtcpbanekjncekaaDoorTex
namespace Go.Proofs.YtcpbanekjncekaaDoor
open Go.RowKit Flt Go.Mem

theorem below_drewN {B : Nat} {a w : World} (h : Below B a w) (n : Nat) : Below B a (w.drewN n) := ⟨h.os, h.tape, h.output, h.size, h.block⟩
set_option maxHeartbeats 1600000 in
theorem rtext_any (d : Nat) (hd : d < 18446744073709551616) (w : World) (hp : Pow10 w) : Calls Tryd.prog 7 #[.float .f64 d] w fun e w' => e = .returned (.tuple #[.string (textB d), .int .i64 (textE d)]) ∧ Below w.heap.size w w' := by
  have hpl := inf_plus d
  unfold maxf at hpl
  cases hpi : isPinf d
  · rw [hpi] at hpl
    cases ht : toldB d
    · have H1 : Hid (textB d = ⟨#[]⟩) := Lib.hid (by unfold textB; rw [hpi, ht]; rfl)
      have H2 : Hid (textE d = 5) := Lib.hid (by unfold textE; rw [hpi, ht]; rfl)
      go_enter Tryd.func7, Tryd.ntmps7
      go_wp2_with (go_at_call 17; refine (rtold_any _ hd _).mono ?_; rintro e w' ⟨rfl, rfl⟩)
      go_ret2
      exact ⟨ret_si H1.out.symm H2.out.symm, Below.refl _ _⟩
    · obtain ⟨hq, hb, _, _⟩ := toldB_isQ hd ht
      obtain ⟨c, c1, c2⟩ := hq.mul4 (by omega)
      have hnan := hq.nan
      have htr := hq.truncI (by omega)
      have hop : ∀ t w, (binOp .mul t (.float .f64 d) (.float .f64 4616189618054758400)).run Tryd.prog w = .ok (.float .f64 c) w := fun t w => run_float_arith w .mul t .f64 _ _ _ c1
      have hcv : ∀ w, (convert 22 2 (.float .f64 c)).run Tryd.prog w = .ok (.int .i64 (qOf d : Int)) w := fun w => run_convert_float_int w 22 2 .f64 .i64 c _ (by rw [Tryd.underlying22]; rfl) Tryd.underlying2 (c2.toInt (by omega) (by omega))
      have hcv2 : ∀ w, (convert 22 2 (.float .f64 (truncW d))).run Tryd.prog w = .ok (.int .i64 ((qOf d : Int) / 4)) w := fun w => run_convert_float_int w 22 2 .f64 .i64 (truncW d) _ (by rw [Tryd.underlying22]; rfl) Tryd.underlying2 (htr.toInt (by omega) (by omega))
      have HT : Hid (textB d = itoaB ((qOf d : Int) / 4) ++ tailB ((qOf d : Int) % 4)) := Lib.hid (by unfold textB; rw [hpi, ht]; rfl)
      have H2 : Hid (textE d = 0) := Lib.hid (by unfold textE; rw [hpi, ht]; rfl)
      have HP := Lib.hid hp
      clear hq c1 c2 hp htr
      go_enter Tryd.func7, Tryd.ntmps7
      go_wp2_with (first | (go_at_call 17; refine (rtold_any _ hd _).mono ?_; rintro e w' ⟨rfl, rfl⟩) | (go_at_call 18; refine (trunc_any _ _ hnan).mono ?_; rintro e w' ⟨rfl, rfl⟩))
      generalize qOf d = n at *
      have hsz : (itoaB ((n : Int) / 4)).size ≤ 21 := by
        have := Lib.itoa_length_le ((n : Int) / 4) (by omega) (by omega)
        unfold itoaB; simpa [ByteArray.size] using this
      refine (fmtInt_any _ (by omega) (by omega) _ HP.out).mono ?_
      rintro e w1 ⟨rfl, hb1⟩
      have hs1 := hb1.size
      have hn4 : (n : Int) % 4 = 0 ∨ (n : Int) % 4 = 1 ∨ (n : Int) % 4 = 2 ∨ (n : Int) % 4 = 3 := by omega
      rcases hn4 with h4 | h4 | h4 | h4
      all_goals
        have e2 : (n : Int) - 4 * ((n : Int) / 4) = (n : Int) % 4 := by omega
        rw [h4] at e2
        have HT2 := Lib.hid (HT.out.trans (congrArg (fun z => itoaB ((n : Int) / 4) ++ tailB z) h4))
        go_wp2
        go_ret2
        refine ⟨ret_si ?_ H2.out.symm, ?_⟩
        · first | exact HT2.out.symm | (rw [HT2.out]; simp [tailB])
        · exact hb1.alloc hs1 _
  · rw [hpi] at hpl
    have H1 : Hid (textB d = ⟨#[105, 110, 102]⟩) := Lib.hid (by unfold textB; rw [hpi]; rfl)
    have H2 : Hid (textE d = 0) := Lib.hid (by unfold textE; rw [hpi]; rfl)
    go_enter Tryd.func7, Tryd.ntmps7
    go_wp2
    go_ret2
    exact ⟨ret_si H1.out.symm H2.out.symm, Below.refl _ _⟩
set_option maxHeartbeats 800000 in
theorem MetricTexts_walk (d : Nat) (w : World) (hd : d < 18446744073709551616) (hp : Pow10 w) : Calls Tryd.prog 3 #[.float .f64 d] w fun e w' => e = .returned (.bool true) ∧ Below w.heap.size w w' := by
  have HP := Lib.hid hp
  clear hp
  go_enter Tryd.func3, Tryd.ntmps3
  go_wp2_with (go_at_call 6; refine (text_any _ hd _ HP.out).mono ?_; rintro e w1 ⟨rfl, hb1⟩)
  have HB1 := Lib.hid hb1
  clear hb1
  go_wp2_with (go_at_call 7; refine (rtext_any _ hd _ (HP.out.below HB1.out)).mono ?_; rintro e w2 ⟨rfl, hb2⟩)
  have HB2 := Lib.hid hb2
  clear hb2
  go_wp2_with (first | (go_at_call 8; refine (quarters_any _ hd _).mono ?_; rintro e w' ⟨rfl, rfl⟩) | (go_at_call 9; refine (rquarters_any _ hd _).mono ?_; rintro e w' ⟨rfl, rfl⟩) | (go_at_call 10; refine (awake_any _).mono ?_; rintro e w' ⟨rfl, n, rfl⟩))
  go_ret
  exact ⟨rfl, below_drewN (HB1.out.trans (HB2.out.mono HB1.out.size)) _⟩

end Go.Proofs.YtcpbanekjncekaaDoor
