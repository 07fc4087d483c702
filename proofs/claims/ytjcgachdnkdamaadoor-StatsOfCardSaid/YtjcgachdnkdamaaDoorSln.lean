/- The walks of number and of Line, program and reference. Conditions: the numbers fit an int64, the words 64 bits; the library's table of powers of ten lies as its text lays it. -/
import Derived.Test.YtjcgachdnkdamaaDoorStr
import Derived.Deep.RegionHeld3
namespace Go.Proofs.YtjcgachdnkdamaaDoor
open Go.RowKit Flt Go.Mem

set_option maxHeartbeats 1600000 in
theorem number_any (n : Int) (h0 : -9223372036854775808 ≤ n) (h1 : n ≤ 9223372036854775807) (w : World) : Calls Tryd.prog 41 #[.int .i64 n] w fun e w' => e = .returned (.string (itoaB n)) ∧ Below w.heap.size w w' := by
  by_cases hn : 0 ≤ n
  · obtain ⟨k, rfl⟩ : ∃ k : Nat, n = (k : Int) := ⟨n.toNat, by omega⟩
    go_enter Tryd.func41, Tryd.ntmps41
    go_wp2_with (go_at_call 39; refine (digits_any k (by omega) _).mono ?_; rintro e w1 ⟨rfl, hb1⟩)
    go_ret
    exact ⟨rfl, hb1⟩
  · obtain ⟨a, rfl⟩ : ∃ a : Nat, n = -(a : Int) := ⟨n.natAbs, by omega⟩
    obtain ⟨d, hd⟩ : ∃ d, d = a % 10 := ⟨_, rfl⟩
    obtain ⟨q, hq⟩ : ∃ q, q = a / 10 := ⟨_, rfl⟩
    have e1 : (a : Int) % 10 = (d : Int) := by omega
    have e2 : (a : Int) / 10 = (q : Int) := by omega
    have hd10 : d < 10 := by omega
    have hqb : q ≤ 922337203685477581 := by omega
    have e4 := Int.tmod_eq_emod_of_nonneg (a := (a : Int)) (b := 10) (by omega)
    have e5 := Int.tdiv_eq_ediv_of_nonneg (a := (a : Int)) (b := 10) (by omega)
    have hst := Lib.hid (show a < 10 → a = d by omega)
    have hst2 := Lib.hid (show 10 ≤ a → Lib.decDigits a = Lib.decDigits q ++ [dig d] from fun h => by rw [hq]; exact dig_step a d (by omega) hd)
    have hq0 := Lib.hid (show q = 0 → a < 10 by omega)
    have hq1 := Lib.hid (show q ≠ 0 → 10 ≤ a by omega)
    have ha1 : 1 ≤ a := by omega
    clear hd hq
    have hsq : (itoaB (q : Int)).size ≤ 21 := by
      have := Lib.itoa_length_le (q : Int) (by omega) (by omega)
      unfold itoaB; rw [ba_mk_size]; exact this
    have hsd : (itoaB (d : Int)).size ≤ 21 := by
      have := Lib.itoa_length_le (d : Int) (by omega) (by omega)
      unfold itoaB; rw [ba_mk_size]; exact this
    have hR : Hid (itoaB (-(a : Int)) = ⟨(45 :: Lib.decDigits a).toArray⟩) := Lib.hid (by unfold itoaB; rw [Lib.itoa_neg a ha1])
    have hQ : Hid (itoaB (q : Int) = ⟨(Lib.decDigits q).toArray⟩) := Lib.hid (by unfold itoaB; rw [Lib.itoa_nonneg])
    have hD : Hid (itoaB (d : Int) = ⟨#[dig d]⟩) := Lib.hid (by unfold itoaB; rw [Lib.itoa_nonneg, dig_last d (by omega)])
    by_cases hz : q = 0
    · have hA := hst.out (hq0.out hz)
      have hz2 : (-(q : Int) != 0) = false := by rw [hz]; rfl
      have hz3 := Lib.hid hz
      have hA2 := Lib.hid hA
      clear hz hA
      go_enter Tryd.func41, Tryd.ntmps41
      go_wp2_with (fail)
      refine (digits_any d (by omega) _).mono ?_
      rintro e w1 ⟨rfl, hb1⟩
      go_wp2
      go_ret
      refine ⟨ret_str ?_, hb1⟩
      rw [hR.out, hD.out, hA2.out, dig_last d (by omega)]
      rfl
    · have hA := hst2.out (hq1.out hz)
      have hz2 : (-(q : Int) != 0) = true := by rw [bne_iff_ne]; omega
      have hA2 := Lib.hid hA
      clear hA
      go_enter Tryd.func41, Tryd.ntmps41
      go_wp2_with (fail)
      refine (digits_any q (by omega) _).mono ?_
      rintro e w1 ⟨rfl, hb1⟩
      have HB1 := Lib.hid hb1
      clear hb1
      go_wp2_with (fail)
      refine (digits_any d (by omega) _).mono ?_
      rintro e w2 ⟨rfl, hb2⟩
      go_wp2
      go_ret
      refine ⟨ret_str ?_, HB1.out.trans (hb2.mono HB1.out.size)⟩
      rw [hR.out, hQ.out, hD.out, hA2.out]
      apply ByteArray.ext
      rw [ByteArray.data_append, ByteArray.data_append]
      simp

end Go.Proofs.YtjcgachdnkdamaaDoor
