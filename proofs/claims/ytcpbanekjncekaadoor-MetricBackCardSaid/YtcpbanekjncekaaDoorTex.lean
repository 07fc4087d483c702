/- The walks of Text and Quarters, program and reference. Conditions: the word fits 64 bits; the library's table of powers of ten lies as its text lays it. -/
import Derived.Test.YtcpbanekjncekaaDoorDis
import Derived.Test.YtcpbanekjncekaaDoorTxt
import Derived.Test.YtcpbanekjncekaaDoorShelf
import Derived.Deep.RegionWith
import Derived.Deep.QuietTactic
import Derived.IntWalk
import Derived.Lib.ItoaLen
namespace Go.Proofs.YtcpbanekjncekaaDoor
open Go.RowKit Flt Go.Mem

theorem ret_ii {k l : IntKind} {a b c d : Int} (h : a = b) (g : c = d) : Ending.returned (.tuple #[.int k a, .int l c]) = .returned (.tuple #[.int k b, .int l d]) := by rw [h, g]
theorem ret_si {k : IntKind} {a b : ByteArray} {c d : Int} (h : a = b) (g : c = d) : Ending.returned (.tuple #[.string a, .int k c]) = .returned (.tuple #[.string b, .int k d]) := by rw [h, g]
def Pow10 (w : World) : Prop := Lib.TabIs Tryd.prog w "internal/strconv.uint64pow10" .u64 Lib.pow10Tab
theorem Pow10.below {w w' : World} (h : Pow10 w) (hb : Below w.heap.size w w') : Pow10 w' := Lib.tabBelow_of_tabIs h w' hb
theorem fmtInt_any (n : Int) (h0 : -9223372036854775808 ≤ n) (h1 : n ≤ 9223372036854775807) (w : World) (ht : Pow10 w) :
    Calls Tryd.prog 16 #[.int .i64 n, .int .i64 10] w fun e w' => e = .returned (.string (itoaB n)) ∧ Below w.heap.size w w' :=
  (Tryd.strconv_FormatInt_10 n h0 h1 w ht).mono fun e w' ⟨he, k, os, hw⟩ => ⟨he, by rw [hw]; exact Lib.below_grow _ w (Nat.le_refl _) k os⟩
set_option maxHeartbeats 800000 in
theorem told_any (d : Nat) (hd : d < 18446744073709551616) (w : World) : Calls Tryd.prog 15 #[.float .f64 d] w fun e w' => e = .returned (.bool (toldB d)) ∧ w' = w := by
  cases hn : isnan d
  · cases hs : sgn d
    · cases hl : (flt d 4787326403894837248 || feq d 4787326403894837248)
      · have HT : Hid (toldB d = false) := Lib.hid (by unfold toldB; rw [hn, hs, hl]; rfl)
        go_enter Tryd.func15, Tryd.ntmps15
        go_wp2_with (first | (go_at_call 27; refine (isnan_any _ _).mono ?_; rintro e w' ⟨rfl, rfl⟩) | (go_at_call 28; refine (signbit_any _ _ hd).mono ?_; rintro e w' ⟨rfl, rfl⟩))
        go_ret
        exact ⟨ret_bool HT.out.symm, rfl⟩
      · have HT : Hid (toldB d = quarterB d) := Lib.hid (by unfold toldB; rw [hn, hs, hl]; rfl)
        have HI : Hid (isinf d = false) := Lib.hid (by
          unfold isinf
          rw [flt_of hn big_isQ.nan, feq_of hn big_isQ.nan, ← Bool.decide_or, decide_eq_true_eq] at hl
          have kb : key 4787326403894837248 = 4787326403894837248 := by decide
          have kd : key d = (rung d : Int) := by unfold key; rw [hs]; simp
          rw [kb, kd] at hl
          exact decide_eq_false (by unfold infR; omega))
        go_enter Tryd.func15, Tryd.ntmps15
        go_wp2_with (first | (go_at_call 27; refine (isnan_any _ _).mono ?_; rintro e w' ⟨rfl, rfl⟩) | (go_at_call 28; refine (signbit_any _ _ hd).mono ?_; rintro e w' ⟨rfl, rfl⟩) | (go_at_call 29; refine (quarter_any _ _ hn HI.out).mono ?_; rintro e w' ⟨rfl, rfl⟩))
        go_ret
        exact ⟨ret_bool HT.out.symm, rfl⟩
    · have HT : Hid (toldB d = false) := Lib.hid (by unfold toldB; rw [hn, hs]; rfl)
      go_enter Tryd.func15, Tryd.ntmps15
      go_wp2_with (first | (go_at_call 27; refine (isnan_any _ _).mono ?_; rintro e w' ⟨rfl, rfl⟩) | (go_at_call 28; refine (signbit_any _ _ hd).mono ?_; rintro e w' ⟨rfl, rfl⟩))
      go_ret
      exact ⟨ret_bool HT.out.symm, rfl⟩
  · have HT : Hid (toldB d = false) := Lib.hid (by unfold toldB; rw [hn]; rfl)
    go_enter Tryd.func15, Tryd.ntmps15
    go_wp2_with (first | (go_at_call 27; refine (isnan_any _ _).mono ?_; rintro e w' ⟨rfl, rfl⟩) | (go_at_call 28; refine (signbit_any _ _ hd).mono ?_; rintro e w' ⟨rfl, rfl⟩))
    go_ret
    exact ⟨ret_bool HT.out.symm, rfl⟩
set_option maxHeartbeats 800000 in
theorem rtold_any (d : Nat) (hd : d < 18446744073709551616) (w : World) : Calls Tryd.prog 17 #[.float .f64 d] w fun e w' => e = .returned (.bool (toldB d)) ∧ w' = w := by
  cases hn : isnan d
  · cases hs : sgn d
    · cases hl : (flt d 4787326403894837248 || feq d 4787326403894837248)
      · have HT : Hid (toldB d = false) := Lib.hid (by unfold toldB; rw [hn, hs, hl]; rfl)
        go_enter Tryd.func17, Tryd.ntmps17
        go_wp2_with (first | (go_at_call 31; refine (rnan_any _ _).mono ?_; rintro e w' ⟨rfl, rfl⟩) | (go_at_call 32; refine (rsign_any _ _ hd).mono ?_; rintro e w' ⟨rfl, rfl⟩))
        go_ret
        exact ⟨ret_bool HT.out.symm, rfl⟩
      · have HT : Hid (toldB d = quarterB d) := Lib.hid (by unfold toldB; rw [hn, hs, hl]; rfl)
        have HI : Hid (isinf d = false) := Lib.hid (by
          unfold isinf
          rw [flt_of hn big_isQ.nan, feq_of hn big_isQ.nan, ← Bool.decide_or, decide_eq_true_eq] at hl
          have kb : key 4787326403894837248 = 4787326403894837248 := by decide
          have kd : key d = (rung d : Int) := by unfold key; rw [hs]; simp
          rw [kb, kd] at hl
          exact decide_eq_false (by unfold infR; omega))
        go_enter Tryd.func17, Tryd.ntmps17
        go_wp2_with (first | (go_at_call 31; refine (rnan_any _ _).mono ?_; rintro e w' ⟨rfl, rfl⟩) | (go_at_call 32; refine (rsign_any _ _ hd).mono ?_; rintro e w' ⟨rfl, rfl⟩) | (go_at_call 33; refine (rquarter_any _ _ hn HI.out).mono ?_; rintro e w' ⟨rfl, rfl⟩))
        go_ret
        exact ⟨ret_bool HT.out.symm, rfl⟩
    · have HT : Hid (toldB d = false) := Lib.hid (by unfold toldB; rw [hn, hs]; rfl)
      go_enter Tryd.func17, Tryd.ntmps17
      go_wp2_with (first | (go_at_call 31; refine (rnan_any _ _).mono ?_; rintro e w' ⟨rfl, rfl⟩) | (go_at_call 32; refine (rsign_any _ _ hd).mono ?_; rintro e w' ⟨rfl, rfl⟩))
      go_ret
      exact ⟨ret_bool HT.out.symm, rfl⟩
  · have HT : Hid (toldB d = false) := Lib.hid (by unfold toldB; rw [hn]; rfl)
    go_enter Tryd.func17, Tryd.ntmps17
    go_wp2_with (first | (go_at_call 31; refine (rnan_any _ _).mono ?_; rintro e w' ⟨rfl, rfl⟩) | (go_at_call 32; refine (rsign_any _ _ hd).mono ?_; rintro e w' ⟨rfl, rfl⟩))
    go_ret
    exact ⟨ret_bool HT.out.symm, rfl⟩
set_option maxHeartbeats 800000 in
theorem quarters_any (d : Nat) (hd : d < 18446744073709551616) (w : World) : Calls Tryd.prog 8 #[.float .f64 d] w fun e w' => e = .returned (.tuple #[.int .i64 (quartN d), .int .i64 (quartE d)]) ∧ w' = w := by
  cases ht : toldB d
  · have H1 : Hid (quartN d = 0) := Lib.hid (by unfold quartN; rw [ht]; rfl)
    have H2 : Hid (quartE d = 5) := Lib.hid (by unfold quartE; rw [ht]; rfl)
    go_enter Tryd.func8, Tryd.ntmps8
    go_wp2_with (go_at_call 15; refine (told_any _ hd _).mono ?_; rintro e w' ⟨rfl, rfl⟩)
    go_ret2
    exact ⟨ret_ii H1.out.symm H2.out.symm, rfl⟩
  · obtain ⟨hq, hb, _, _⟩ := toldB_isQ hd ht
    obtain ⟨c, c1, c2⟩ := hq.mul4 (by omega)
    have hop : ∀ t w, (binOp .mul t (.float .f64 d) (.float .f64 4616189618054758400)).run Tryd.prog w = .ok (.float .f64 c) w := fun t w => run_float_arith w .mul t .f64 _ _ _ c1
    have hcv : ∀ w, (convert 22 2 (.float .f64 c)).run Tryd.prog w = .ok (.int .i64 (qOf d : Int)) w := fun w => run_convert_float_int w 22 2 .f64 .i64 c _ (by rw [Tryd.underlying22]; rfl) Tryd.underlying2 (c2.toInt (by omega) (by omega))
    have H1 : Hid (quartN d = (qOf d : Int)) := Lib.hid (by unfold quartN; rw [ht]; rfl)
    have H2 : Hid (quartE d = 0) := Lib.hid (by unfold quartE; rw [ht]; rfl)
    clear hq hb c1 c2
    go_enter Tryd.func8, Tryd.ntmps8
    go_wp2_with (go_at_call 15; refine (told_any _ hd _).mono ?_; rintro e w' ⟨rfl, rfl⟩)
    go_ret2
    exact ⟨ret_ii H1.out.symm H2.out.symm, rfl⟩
set_option maxHeartbeats 800000 in
theorem rquarters_any (d : Nat) (hd : d < 18446744073709551616) (w : World) : Calls Tryd.prog 9 #[.float .f64 d] w fun e w' => e = .returned (.tuple #[.int .i64 (quartN d), .int .i64 (quartE d)]) ∧ w' = w := by
  cases ht : toldB d
  · have H1 : Hid (quartN d = 0) := Lib.hid (by unfold quartN; rw [ht]; rfl)
    have H2 : Hid (quartE d = 5) := Lib.hid (by unfold quartE; rw [ht]; rfl)
    go_enter Tryd.func9, Tryd.ntmps9
    go_wp2_with (go_at_call 17; refine (rtold_any _ hd _).mono ?_; rintro e w' ⟨rfl, rfl⟩)
    go_ret2
    exact ⟨ret_ii H1.out.symm H2.out.symm, rfl⟩
  · obtain ⟨hq, hb, _, _⟩ := toldB_isQ hd ht
    obtain ⟨c, c1, c2⟩ := hq.mul4 (by omega)
    have hop : ∀ t w, (binOp .mul t (.float .f64 d) (.float .f64 4616189618054758400)).run Tryd.prog w = .ok (.float .f64 c) w := fun t w => run_float_arith w .mul t .f64 _ _ _ c1
    have hcv : ∀ w, (convert 22 2 (.float .f64 c)).run Tryd.prog w = .ok (.int .i64 (qOf d : Int)) w := fun w => run_convert_float_int w 22 2 .f64 .i64 c _ (by rw [Tryd.underlying22]; rfl) Tryd.underlying2 (c2.toInt (by omega) (by omega))
    have H1 : Hid (quartN d = (qOf d : Int)) := Lib.hid (by unfold quartN; rw [ht]; rfl)
    have H2 : Hid (quartE d = 0) := Lib.hid (by unfold quartE; rw [ht]; rfl)
    clear hq hb c1 c2
    go_enter Tryd.func9, Tryd.ntmps9
    go_wp2_with (go_at_call 17; refine (rtold_any _ hd _).mono ?_; rintro e w' ⟨rfl, rfl⟩)
    go_ret2
    exact ⟨ret_ii H1.out.symm H2.out.symm, rfl⟩
set_option maxHeartbeats 1600000 in
theorem text_any (d : Nat) (hd : d < 18446744073709551616) (w : World) (hp : Pow10 w) : Calls Tryd.prog 6 #[.float .f64 d] w fun e w' => e = .returned (.tuple #[.string (textB d), .int .i64 (textE d)]) ∧ Below w.heap.size w w' := by
  cases hpi : isPinf d
  · cases ht : toldB d
    · have H1 : Hid (textB d = ⟨#[]⟩) := Lib.hid (by unfold textB; rw [hpi, ht]; rfl)
      have H2 : Hid (textE d = 5) := Lib.hid (by unfold textE; rw [hpi, ht]; rfl)
      go_enter Tryd.func6, Tryd.ntmps6
      go_wp2_with (first | (go_at_call 14; refine (isinf1_any _ _).mono ?_; rintro e w' ⟨rfl, rfl⟩) | (go_at_call 15; refine (told_any _ hd _).mono ?_; rintro e w' ⟨rfl, rfl⟩))
      go_ret2
      exact ⟨ret_si H1.out.symm H2.out.symm, Below.refl _ _⟩
    · obtain ⟨hq, hb, _, _⟩ := toldB_isQ hd ht
      obtain ⟨c, c1, c2⟩ := hq.mul4 (by omega)
      have hop : ∀ t w, (binOp .mul t (.float .f64 d) (.float .f64 4616189618054758400)).run Tryd.prog w = .ok (.float .f64 c) w := fun t w => run_float_arith w .mul t .f64 _ _ _ c1
      have hcv : ∀ w, (convert 22 2 (.float .f64 c)).run Tryd.prog w = .ok (.int .i64 (qOf d : Int)) w := fun w => run_convert_float_int w 22 2 .f64 .i64 c _ (by rw [Tryd.underlying22]; rfl) Tryd.underlying2 (c2.toInt (by omega) (by omega))
      have HT : Hid (textB d = itoaB ((qOf d : Int) / 4) ++ tailB ((qOf d : Int) % 4)) := Lib.hid (by unfold textB; rw [hpi, ht]; rfl)
      have H2 : Hid (textE d = 0) := Lib.hid (by unfold textE; rw [hpi, ht]; rfl)
      have HP := Lib.hid hp
      clear hq c1 c2 hp
      go_enter Tryd.func6, Tryd.ntmps6
      go_wp2_with (first | (go_at_call 14; refine (isinf1_any _ _).mono ?_; rintro e w' ⟨rfl, rfl⟩) | (go_at_call 15; refine (told_any _ hd _).mono ?_; rintro e w' ⟨rfl, rfl⟩))
      generalize qOf d = n at *
      have hn4 : (n : Int) % 4 = 0 ∨ (n : Int) % 4 = 1 ∨ (n : Int) % 4 = 2 ∨ (n : Int) % 4 = 3 := by omega
      rcases hn4 with h4 | h4 | h4 | h4
      all_goals
        have hsz : (itoaB ((n : Int) / 4)).size ≤ 21 := by
          have := Lib.itoa_length_le ((n : Int) / 4) (by omega) (by omega)
          unfold itoaB; simpa [ByteArray.size] using this
        have e1 : IntKind.i64.wrap ((n : Int) / 4) = (n : Int) / 4 := IntWalk.i64_in _ (by omega)
        have e2 := Int.tmod_eq_emod_of_nonneg (a := (n : Int)) (b := 4) (by omega)
        rw [h4] at e2
        have HT2 := Lib.hid (HT.out.trans (congrArg (fun z => itoaB ((n : Int) / 4) ++ tailB z) h4))
        go_region_with (go_simp; go_at_call 16; refine (fmtInt_any _ (by clear e1 e2; omega) (by clear e1 e2; omega) _ ?_).mono ?_; (first | exact HP.out.below ((Below.refl _ _).drew) | exact HP.out.below (((Below.refl _ _).alloc (Nat.le_refl _) _).drew)); rintro e w1 ⟨rfl, hb1⟩; have hs1 := hb1.size; obtain ⟨hc1, hf1⟩ := bcell hb1)
        all_goals
          go_wp2
          go_ret2
          refine ⟨ret_si ?_ H2.out.symm, ?_⟩
          · first | exact HT2.out.symm | (rw [HT2.out]; simp [tailB])
          · first | exact (((Below.refl _ _).drew).trans hb1).alloc hs1 _ | exact (((Below.refl _ _).alloc (Nat.le_refl _) _).drew).trans (hb1.mono (by simp))
  · have H1 : Hid (textB d = ⟨#[105, 110, 102]⟩) := Lib.hid (by unfold textB; rw [hpi]; rfl)
    have H2 : Hid (textE d = 0) := Lib.hid (by unfold textE; rw [hpi]; rfl)
    go_enter Tryd.func6, Tryd.ntmps6
    go_wp2_with (go_at_call 14; refine (isinf1_any _ _).mono ?_; rintro e w' ⟨rfl, rfl⟩)
    go_ret2
    exact ⟨ret_si H1.out.symm H2.out.symm, Below.refl _ _⟩

end Go.Proofs.YtcpbanekjncekaaDoor
