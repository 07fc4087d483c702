/- The walk of the law on the first least float: returns true, writes nothing that was there. Conditions: the slice reads as the list, within the form's reach. -/
import Derived.Test.YtcpbanekjncekaaLst
import Derived.Test.YtcpbanekjncekaaRow
import Derived.Test.YtcpbanekjncekaaOpn
namespace Go.Proofs.Ytcpbanekjncekaa
open Go.RowKit Flt Go.Mem

theorem infoF : (Try.prog.info? 22).map (fun i => (i.zero, i.size, i.bytes)) = some (some (.float .f64 0), 1, 8) := by kernel_rfl
set_option maxHeartbeats 800000 in
theorem MetricLeast_walk (A : Option Addr) (n c : Nat) (l : List Nat) (w : World) (fr : FRow w w.heap.size A n l) (_fb : ∀ x ∈ l, x < 18446744073709551616) (hle : n ≤ c) (hrc : c * 8 ≤ 140737488351232) :
    Calls Try.prog 9 #[.slice A n c] w fun e w' => e = .returned (.bool true) ∧ Below w.heap.size w w' := by
  obtain ⟨i0, hi, hz0, hz1, hz2⟩ := info_parts infoF
  have hr0 : Row (w.alloc (.cells #[] 22)) w.heap.size 1 A n (l.map (.float .f64)) := fr.to_row.alloc (Nat.le_refl _) _
  have hown0 : (w.alloc (.cells #[] 22)).ownsRow w.heap.size 22 1 (.slice (some ⟨w.heap.size, 0, none⟩) 0 0) 0 [] := World.ownsRow_made w #[] 0 (Nat.le_refl _) (by decide) rfl
  have hone : ∀ u ∈ l.map (Value.float .f64), u.oneCell' = true := by intro u hu; obtain ⟨x, _, rfl⟩ := List.mem_map.1 hu; rfl
  have hml : 0 + n ≤ maxLen := by unfold maxLen; omega
  have hkb : ∀ k, (Value.slice (some ⟨w.heap.size, 0, none⟩) 0 0).ownBlock = some k → w.heap.size ≤ k := by
    intro k hk
    have : w.heap.size = k := by simpa [Value.ownBlock] using hk
    omega
  have hbl : Below w.heap.size w (w.alloc (.cells #[] 22)) := (Below.refl _ _).alloc (Nat.le_refl _) _
  go_enter Try.func9, Try.ntmps9
  go_wp2_with (at_builtin; refine wpList_append_row _ rfl _ _ 32 rfl w.heap.size 22 i0 (.float .f64 0) 1 8 Try.underlying32 hi hz0 hz1 hz2 rfl (by decide) (.slice (some ⟨w.heap.size, 0, none⟩) 0 0) 0 [] rfl hown0 w.heap.size A n c (l.map (.float .f64)) rfl hr0 hone hml (by omega) (by simp) ?_; intro v1 w1 hown hg)
  have hbg : Below w.heap.size w w1 := hbl.grown hg (by simp) hkb
  have fr1 : FRow w1 w.heap.size A n l := fr.below hbg
  simp only [Nat.zero_add, List.nil_append] at hown
  obtain ⟨A', c', hv⟩ := own_form hown
  rw [hv] at hown ⊢
  have fo : FRow w1 w1.heap.size A' n l := FRow.of_row (Row.of_own hown)
  clear hown hg hr0 hown0 hbl hv
  have hn9 : n ≤ 9223372036854775807 := by omega
  have HB := Lib.hid hbg
  have HB2 : w.heap.size ≤ w1.heap.size := hbg.size
  clear hbg
  go_wp2_with (go_at_call 24; refine (least_any A' n c' _ l _ fo hn9).mono ?_; rintro e w' ⟨rfl, rfl⟩)
  go_loopw [5] (fun i wr => (∃ k : Nat, k ≤ n ∧ i = .int .i64 k) ∧ ∃ d, wr = w'.drewN d) (fun i _ => n - (intOf i).toNat)
  case atStart => exact ⟨⟨0, Nat.zero_le _, rfl⟩, 0, rfl⟩
  case round =>
    obtain ⟨⟨k, hk, rfl⟩, d, rfl⟩ := hrel
    by_cases hlt : k < n
    · obtain ⟨b, off, rfl, _, hc⟩ := fr1.2 (by omega)
      obtain ⟨b', off', rfl, _, hc'⟩ := fo.2 (by omega)
      have hck := hc k hlt
      have hck' := hc' k hlt
      clear hc hc'
      go_wp2
      go_quiet ((go_at_call 15; first | exact quiet_more (same_any _ _ _) | exact Calls.quiet_of_same (same_any _ _ _)))
      go_wp2
      go_roundw
      case rel => exact ⟨⟨k + 1, by omega, by go_num⟩, _, rfl⟩
      case measure => simp [intOf]; omega
    · have hkn : k = n := by omega
      subst hkn
      go_wp2_with (first | (go_at_call 25; refine (rleast_any _ _ _ _ l _ (fr1.drewN _) hn9).mono ?_; rintro e w' ⟨rfl, d2, rfl⟩) | (go_at_call 14; refine (awake_any _).mono ?_; rintro e w' ⟨rfl, d3, rfl⟩))
      go_ret
      exact ⟨rfl, below_drewN HB.out _⟩

end Go.Proofs.Ytcpbanekjncekaa
