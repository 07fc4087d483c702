/- slices.SortStableFunc at floats, by metric.Compare: the merge of all cases, the blocks, the whole. Conditions: as each theorem's hypotheses say; rows of less than 2^60 floats. -/
import Derived.Test.YtjcgachdnkdamaaDoorSgl
import Derived.Test.YtjcgachdnkdamaaDoorSrb
namespace Go.Proofs.YtjcgachdnkdamaaDoor
open Go.RowKit Flt Go.Mem Go.Lib
set_option linter.unusedVariables false

set_option maxHeartbeats 3200000
theorem merge_any (b off cap N : Nat) (f : Nat → Nat) (base : Nat) (hbase : base ≤ b) (hN : N ≤ 1152921504606846976) : ∀ (n a mm en : Nat) (s : Nat → Nat) (w : World), en - a < n → SRow w b off N f s → a < mm → mm < en → en ≤ N → Inc f s a mm → Inc f s mm en → LR s a mm en →
    Calls Tryd.prog 69 #[.slice (some ⟨b, off, none⟩) N cap, .int .i64 a, .int .i64 mm, .int .i64 en, .func (.func 53) #[] #[]] w (Mrgd base b off N f s a en w)
  | 0, _, _, _, _, _, h, _, _, _, _, _, _, _ => absurd h (Nat.not_lt_zero _)
  | n + 1, a, mm, en, s, w, h, hr, h0, h2, he, hi1, hi2, hl => by
    have IH : ∀ a' m' e' s' w', e' - a' < en - a → a' < m' → m' < e' → e' ≤ N → SRow w' b off N f s' → Inc f s' a' m' → Inc f s' m' e' → LR s' a' m' e' → Calls Tryd.prog 69 #[.slice (some ⟨b, off, none⟩) N cap, .int .i64 (a' : Nat), .int .i64 (m' : Nat), .int .i64 (e' : Nat), .func (.func 53) #[] #[]] w' (Mrgd base b off N f s' a' e' w') :=
      fun a' m' e' s' w' k0 k1 k2 k3 k4 k5 k6 k7 => merge_any b off cap N f base hbase hN n a' m' e' s' w' (by omega) k4 k1 k2 k3 k5 k6 k7
    by_cases c1 : mm = a + 1
    · exact merge_head b off cap N a mm en f s base w hr hbase c1 h2 he hi1 hi2 hl hN
    · by_cases c2 : en = mm + 1
      · exact merge_tail b off cap N a mm en f s base w hr hbase h0 c1 c2 he hi1 hi2 hl hN
      · by_cases c3 : (a + en) / 2 < mm
        · exact merge_gen_hi b off cap N a mm en f s base w hr hbase h0 c1 h2 c2 he hi1 hi2 hl hN c3 IH
        · exact merge_gen_lo b off cap N a mm en f s base w hr hbase h0 c1 h2 c2 he hi1 hi2 hl hN c3 IH
/-- what a stable sort has made -/
def Srtd (base b off N : Nat) (f : Nat → Nat) (w : World) (e : Ending) (w' : World) : Prop :=
  e = .returned (.tuple #[]) ∧ (∃ t, Inc f t 0 N ∧ (∀ i, i < N → t i < N) ∧ SRow w' b off N f t) ∧ Below base w w'
theorem stable_any (b off cap N : Nat) (f : Nat → Nat) (base : Nat) (w : World) (hr : SRow w b off N f id) (hbase : base ≤ b) (hN : N ≤ 1152921504606846976) :
    Calls Tryd.prog 61 #[.slice (some ⟨b, off, none⟩) N cap, .int .i64 N, .func (.func 53) #[] #[]] w (Srtd base b off N f w) := by
  have H0 := Lib.hid hr
  clear hr
  have IN := Lib.hid (fun (a en : Nat) (s : Nat → Nat) (w : World) (hr : SRow w b off N f s) ha he htag => insert_any b off cap N a en f s base w hr hbase ha he htag hN)
  have MG := Lib.hid (fun (a mm en : Nat) (s : Nat → Nat) (w : World) (hr : SRow w b off N f s) h0 h1 h2 h3 h4 h5 => merge_any b off cap N f base hbase hN (en - a + 1) a mm en s w (Nat.lt_succ_self _) hr h0 h1 h2 h3 h4 h5)
  go_enter Tryd.func61, Tryd.ntmps61
  go_wp2_with (fail)
  go_loopw [7, 8] (fun av bv wr => ∃ (a b2 q : Nat) (t : Nat → Nat), av = .int .i64 a ∧ bv = .int .i64 b2 ∧ a ≤ N ∧ b2 ≤ 1152921504606846996 ∧ Hid (a = q * 20 ∧ b2 = a + 20 ∧ Lft f t 20 q ∧ ∀ i, a ≤ i → t i = i) ∧ SRow wr b off N f t ∧ Below base w wr) (fun _ bv _ => N + 1 - (intOf bv).toNat)
  case atStart => exact ⟨0, 20, 0, id, rfl, rfl, Nat.zero_le _, by omega, Lib.hid ⟨rfl, rfl, Lft.zero _ _ _, fun _ _ => rfl⟩, H0.out, Below.refl _ _⟩
  case round =>
    obtain ⟨a, b2, q, t, rfl, rfl, haN, hb2N, HQ, hS, hbt⟩ := hrel
    by_cases hbN : b2 ≤ N
    · have hab : a ≤ b2 := by have := HQ.out.2.1; omega
      have C := IN.out a b2 t _ hS hab hbN (fun i j i0 ij _ => by rw [HQ.out.2.2.2 i i0, HQ.out.2.2.2 j (by omega)]; exact ij)
      have HC := Lib.hid C
      clear C hS
      obtain ⟨p, hp⟩ : ∃ x, x = b2 + 20 := ⟨_, rfl⟩
      have hp2 : (b2 : Int) + 20 = (p : Int) := by omega
      have hwp : IntKind.i64.wrap (p : Int) = (p : Int) := IntWalk.i64_in _ (by omega)
      have HP := Lib.hid hp
      clear hp
      go_wp2_with (fail)
      refine HC.out.mono ?_
      rintro e w1 ⟨rfl, ⟨u, hru, hiu, hS1⟩, hb1⟩
      have HS1 := Lib.hid hS1
      have HST := Lib.hid (ins_step HQ.out.1 HQ.out.2.1 HQ.out.2.2.1 HQ.out.2.2.2 hru hiu)
      clear hS1 hru hiu
      go_wp2_with (fail)
      go_roundw
      case rel => exact ⟨b2, p, q + 1, u, rfl, rfl, hbN, by have := HP.out; omega, Lib.hid ⟨HST.out.1, HP.out, HST.out.2.1, HST.out.2.2⟩, HS1.out, hbt.trans hb1⟩
      case measure => have := HP.out; simp [intOf]; omega
    · have C := IN.out a N t _ hS haN (Nat.le_refl _) (fun i j i0 ij _ => by rw [HQ.out.2.2.2 i i0, HQ.out.2.2.2 j (by omega)]; exact ij)
      have HC := Lib.hid C
      clear C hS
      go_wp2_with (fail)
      refine HC.out.mono ?_
      rintro e w1 ⟨rfl, ⟨u, hru, hiu, hS1⟩, hb1⟩
      have HS1 := Lib.hid hS1
      have HBK := Lib.hid (ins_end (n := N) HQ.out.1 haN (by have := HQ.out.2.1; omega) HQ.out.2.2.1 HQ.out.2.2.2 hru hiu)
      have HB1 := Lib.hid (hbt.trans hb1)
      clear hS1 hru hiu hbt hb1 HQ HC haN hb2N hbN
      go_wp2_with (fail)
      go_loopw [6] (fun kv wr => ∃ (k : Nat) (t : Nat → Nat), kv = .int .i64 k ∧ 0 < k ∧ k ≤ 2305843009213693952 ∧ Hid (Bks f t N k 0) ∧ SRow wr b off N f t ∧ Below base w wr) (fun kv _ => N - (intOf kv).toNat)
      case atStart => exact ⟨20, u, rfl, by omega, by omega, HBK, HS1.out, HB1.out⟩
      case round =>
        obtain ⟨k, t, rfl, hk0, hk1, HK, hS, hbt⟩ := hrel
        have HS := Lib.hid hS
        clear hS HS1 HBK HB1
        by_cases hkN : k < N
        · obtain ⟨wA, rfl⟩ : ∃ wA : World, wA = wr := ⟨_, rfl⟩
          have HB := Lib.hid hbt
          clear hbt
          obtain ⟨D, hD⟩ : ∃ x, x = 2 * k := ⟨_, rfl⟩
          have hD2 : 2 * (k : Int) = (D : Int) := by omega
          have hwD : IntKind.i64.wrap (D : Int) = (D : Int) := IntWalk.i64_in _ (by omega)
          have hD3 : (k : Int) * 2 = (D : Int) := by omega
          have HD := Lib.hid hD
          have hD0 : 0 < D := by omega
          have hDN : D ≤ 2305843009213693952 := by omega
          clear hD
          go_wp2_with (fail)
          go_loopw [7, 8] (fun av bv wr => ∃ (a b2 q : Nat) (t : Nat → Nat), av = .int .i64 a ∧ bv = .int .i64 b2 ∧ a ≤ N ∧ b2 ≤ 3458764513820540928 ∧ Hid (a = q * D ∧ b2 = a + D ∧ Lft f t D q ∧ Bks f t N k a) ∧ SRow wr b off N f t ∧ Below base w wr) (fun _ bv _ => N + 1 - (intOf bv).toNat)
          case atStart => exact ⟨0, D, 0, t, rfl, rfl, Nat.zero_le _, by omega, Lib.hid ⟨by omega, by omega, Lft.zero _ _ _, HK.out⟩, HS.out, HB.out⟩
          case round =>
            obtain ⟨a, b2, q, t, rfl, rfl, haN, hb2N, HQ, hS, hbt⟩ := hrel
            clear HS HK
            obtain ⟨m, hm⟩ : ∃ x, x = a + k := ⟨_, rfl⟩
            have hm2 : (a : Int) + (k : Int) = (m : Int) := by omega
            have hwm : IntKind.i64.wrap (m : Int) = (m : Int) := IntWalk.i64_in _ (by omega)
            have HM := Lib.hid hm
            clear hm
            by_cases hbN : b2 ≤ N
            · have P := mrg_pre HQ.out.2.2.2 HD.out HQ.out.1 HM.out (.inl ⟨HQ.out.2.1, hbN⟩) (by have := HM.out; have := HD.out; have := HQ.out.2.1; omega)
              have C := MG.out a m b2 t _ hS (by have := HM.out; omega) (by have := HM.out; have := HD.out; have := HQ.out.2.1; omega) hbN P.1.1 P.2.1 (P.1.lr P.2)
              have HC := Lib.hid C
              clear C hS P
              obtain ⟨p, hp⟩ : ∃ x, x = b2 + D := ⟨_, rfl⟩
              have hp2 : (b2 : Int) + (D : Int) = (p : Int) := by omega
              have hwp : IntKind.i64.wrap (p : Int) = (p : Int) := IntWalk.i64_in _ (by omega)
              have HP := Lib.hid hp
              clear hp
              go_wp2_with (fail)
              refine HC.out.mono ?_
              rintro e w1 ⟨rfl, ⟨u, hru, hiu, hS1⟩, hb1⟩
              have HS1 := Lib.hid hS1
              have HST := Lib.hid (mrg_step HQ.out.2.2.1 HQ.out.2.2.2 HD.out HQ.out.1 HM.out HQ.out.2.1 hbN hk0 hru hiu)
              clear hS1 hru hiu
              go_wp2_with (fail)
              go_roundw
              case rel => exact ⟨b2, p, q + 1, u, rfl, rfl, hbN, by have := HP.out; omega, Lib.hid ⟨HST.out.1, HP.out, HST.out.2.1, HST.out.2.2⟩, HS1.out, hbt.trans hb1⟩
              case measure => have := HP.out; simp [intOf]; omega
            · by_cases hmN : m < N
              · have P := mrg_pre HQ.out.2.2.2 HD.out HQ.out.1 HM.out (.inr ⟨rfl, by have := HQ.out.2.1; omega⟩) hmN
                have C := MG.out a m N t _ hS (by have := HM.out; omega) hmN (Nat.le_refl _) P.1.1 P.2.1 (P.1.lr P.2)
                have HC := Lib.hid C
                clear C hS P
                go_wp2_with (fail)
                refine HC.out.mono ?_
                rintro e w1 ⟨rfl, ⟨u, hru, hiu, hS1⟩, hb1⟩
                have HS1 := Lib.hid hS1
                have HEN := Lib.hid (mrg_end HQ.out.2.2.1 HQ.out.2.2.2 HD.out HQ.out.1 HM.out HQ.out.2.1 haN hbN hk0 hmN hru hiu)
                have HB1 := Lib.hid (hbt.trans hb1)
                clear hS1 hru hiu hbt hb1
                go_wp2_with (fail)
                go_roundw
                case rel => exact ⟨D, u, rfl, hD0, hDN, HEN, HS1.out, HB1.out⟩
                case measure => have := HD.out; simp [intOf]; omega
              · have HEN := Lib.hid (mrg_end2 HQ.out.2.2.1 HQ.out.2.2.2 HD.out HQ.out.1 HM.out HQ.out.2.1 haN hbN hmN)
                have HS2 := Lib.hid hS
                clear hS
                go_wp2_with (fail)
                go_roundw
                case rel => exact ⟨D, t, rfl, hD0, hDN, HEN, HS2.out, hbt⟩
                case measure => have := HD.out; simp [intOf]; omega
        · have A := HK.out.all (by omega)
          have HA := Lib.hid A
          clear A
          go_wp2_with (fail)
          go_end0
          exact ⟨rfl, ⟨t, HA.out.1, HA.out.2, HS.out⟩, hbt⟩
set_option maxHeartbeats 400000
theorem sort_any (b off cap N : Nat) (f : Nat → Nat) (base : Nat) (w : World) (hr : SRow w b off N f id) (hbase : base ≤ b) (hN : N ≤ 1152921504606846976) :
    Calls Tryd.prog 52 #[.slice (some ⟨b, off, none⟩) N cap, .func (.func 53) #[] #[]] w (Srtd base b off N f w) := by
  go_enter Tryd.func52, Tryd.ntmps52
  go_wp2_with (fail)
  refine (stable_any b off cap N f base w hr hbase hN).mono ?_
  rintro e w1 ⟨rfl, ht, hb⟩
  have HT := Lib.hid ht
  clear ht
  go_wp2_with (fail)
  go_end0
  exact ⟨rfl, HT.out, hb⟩

end Go.Proofs.YtjcgachdnkdamaaDoor
