/- The walks of the place of the first least float, program and reference. Conditions: the slice reads as the list. -/
import Derived.Test.YtcpbanekjncekaaWal
import Derived.Test.YtcpbanekjncekaaMem
import Derived.Deep.QuietTactic
import Derived.BigQuiet
namespace Go.Proofs.Ytcpbanekjncekaa
open Go.RowKit Flt Go.Mem

set_option maxHeartbeats 800000 in
theorem least_any (A : Option Addr) (n c B : Nat) (l : List Nat) (w : World) (hl : FRow w B A n l) (hn : n ≤ 9223372036854775807) :
    Calls Try.prog 24 #[.slice A n c] w fun e w' => e = .returned (.int .i64 (leastTo l n)) ∧ w' = w := by
  go_enter Try.func24, Try.ntmps24
  go_wp2
  go_loop [3, 8] (fun t i => ∃ k : Nat, k ≤ n ∧ i = .int .i64 k ∧ t = .int .i64 (leastTo l k)) (fun _ i => n - (intOf i).toNat)
  case atStart => exact ⟨0, Nat.zero_le _, rfl, rfl⟩
  case round =>
    obtain ⟨k, hk, rfl, rfl⟩ := hrel
    have hb := leastTo_bd l k
    by_cases hlt : k < n
    · obtain ⟨b, off, rfl, _, hc⟩ := hl.2 (by omega)
      have hck := hc k hlt
      by_cases h0 : leastTo l k < 0
      · have e : Hid (leastTo l (k + 1) = (k : Int)) := Lib.hid (by rw [leastTo, if_pos h0])
        clear hc hl
        go_wp2
        go_round
        case rel => exact ⟨k + 1, by omega, by go_num, by rw [e.out]⟩
        case measure => simp [intOf]; omega
      · obtain ⟨j, hj⟩ := Int.eq_ofNat_of_zero_le (show 0 ≤ leastTo l k by omega)
        have hcj := hc j (by omega)
        have hjn : j < n := by omega
        by_cases h1 : cmpI (fat l k) (fat l j) < 0
        · have e : Hid (leastTo l (k + 1) = (k : Int)) := Lib.hid (by rw [leastTo, if_neg h0, hj, Int.toNat_natCast, if_pos h1])
          have E := Lib.hid hj
          rw [hj]
          clear hc hl hj h0 hb
          go_wp2_with (go_at_call 22; refine (compare_any _ _ _).mono ?_; rintro e w' ⟨rfl, rfl⟩)
          go_round
          case rel => exact ⟨k + 1, by omega, by go_num, by rw [e.out]⟩
          case measure => simp [intOf]; omega
        · have e : Hid (leastTo l (k + 1) = (j : Int)) := Lib.hid (by rw [leastTo, if_neg h0, hj, Int.toNat_natCast, if_neg h1])
          have E := Lib.hid hj
          rw [hj]
          clear hc hl hj h0 hb
          go_wp2_with (go_at_call 22; refine (compare_any _ _ _).mono ?_; rintro e w' ⟨rfl, rfl⟩)
          go_round
          case rel => exact ⟨k + 1, by omega, by go_num, by rw [e.out]⟩
          case measure => simp [intOf]; omega
    · have hkn : k = n := by omega
      subst hkn
      clear hl hb
      go_wp2
      go_ret
      exact ⟨rfl, rfl⟩
set_option maxHeartbeats 800000 in
theorem rleast_any (A : Option Addr) (n c B : Nat) (l : List Nat) (w : World) (hl : FRow w B A n l) (hn : n ≤ 9223372036854775807) :
    Calls Try.prog 25 #[.slice A n c] w fun e w' => e = .returned (.int .i64 (leastTo l n)) ∧ ∃ d, w' = w.drewN d := by
  go_enter Try.func25, Try.ntmps25
  go_wp2
  go_loopw [3, 4] (fun t i wr => (∃ k : Nat, k ≤ n ∧ i = .int .i64 k ∧ t = .int .i64 (leastTo l k)) ∧ ∃ d, wr = w.drewN d) (fun _ i _ => n - (intOf i).toNat)
  case atStart => exact ⟨⟨0, Nat.zero_le _, rfl, rfl⟩, 0, rfl⟩
  case round =>
    obtain ⟨⟨k, hk, rfl, rfl⟩, d, rfl⟩ := hrel
    have hb := leastTo_bd l k
    by_cases hlt : k < n
    · obtain ⟨b, off, rfl, _, hc⟩ := hl.2 (by omega)
      have hck := hc k hlt
      by_cases h0 : leastTo l k < 0
      · have e : Hid (leastTo l (k + 1) = (k : Int)) := Lib.hid (by rw [leastTo, if_pos h0])
        clear hc hl
        go_wp2
        go_quiet (fail)
        go_wp2
        go_roundw
        case rel => exact ⟨⟨k + 1, by omega, by go_num, by rw [e.out]⟩, _, rfl⟩
        case measure => simp [intOf]; omega
      · obtain ⟨j, hj⟩ := Int.eq_ofNat_of_zero_le (show 0 ≤ leastTo l k by omega)
        have hcj := hc j (by omega)
        have hjn : j < n := by omega
        by_cases h1 : cmpI (fat l k) (fat l j) < 0
        · have e : Hid (leastTo l (k + 1) = (k : Int)) := Lib.hid (by rw [leastTo, if_neg h0, hj, Int.toNat_natCast, if_pos h1])
          have E := Lib.hid hj
          rw [hj]
          clear hc hl hj h0 hb
          go_wp2
          go_quiet ((go_at_call 23; first | exact quiet_more (rcompare_any _ _ _) | exact Calls.quiet_of_same (rcompare_any _ _ _)))
          go_wp2
          go_roundw
          case rel => exact ⟨⟨k + 1, by omega, by go_num, by rw [e.out]⟩, _, rfl⟩
          case measure => simp [intOf]; omega
        · have e : Hid (leastTo l (k + 1) = (j : Int)) := Lib.hid (by rw [leastTo, if_neg h0, hj, Int.toNat_natCast, if_neg h1])
          have E := Lib.hid hj
          rw [hj]
          clear hc hl hj h0 hb
          go_wp2
          go_quiet ((go_at_call 23; first | exact quiet_more (rcompare_any _ _ _) | exact Calls.quiet_of_same (rcompare_any _ _ _)))
          go_wp2
          go_roundw
          case rel => exact ⟨⟨k + 1, by omega, by go_num, by rw [e.out]⟩, _, rfl⟩
          case measure => simp [intOf]; omega
    · have hkn : k = n := by omega
      subst hkn
      clear hl hb
      go_wp2
      go_ret
      exact ⟨rfl, _, rfl⟩

end Go.Proofs.Ytcpbanekjncekaa
