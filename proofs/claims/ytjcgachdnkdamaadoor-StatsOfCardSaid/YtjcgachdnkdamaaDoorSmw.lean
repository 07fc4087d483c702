/- The walks of slices.symMergeCmpFunc at floats, by metric.Compare: a merge that keeps equals in their order. Conditions: as each theorem's hypotheses say; rows of less than 2^60 floats. -/
import Derived.Test.YtjcgachdnkdamaaDoorSrw
namespace Go.Proofs.YtjcgachdnkdamaaDoor
open Go.RowKit Flt Go.Mem Go.Lib

attribute [local go_sem] run_store_float
set_option maxHeartbeats 3200000
set_option maxRecDepth 100000
/-- what a merge has made -/
def Mrgd (base b off N : Nat) (f s : Nat → Nat) (a en : Nat) (w : World) (e : Ending) (w' : World) : Prop :=
  e = .returned (.tuple #[]) ∧ (∃ t, Rm a en s t ∧ Inc f t a en ∧ SRow w' b off N f t) ∧ Below base w w'
theorem merge_head (b off cap N a mm en : Nat) (f s : Nat → Nat) (base : Nat) (w : World) (hr : SRow w b off N f s) (hbase : base ≤ b) (h1 : mm = a + 1) (h2 : mm < en) (he : en ≤ N) (hi1 : Inc f s a mm) (hi2 : Inc f s mm en) (hl : LR s a mm en) (hN : N ≤ 1152921504606846976) :
    Calls Tryd.prog 69 #[.slice (some ⟨b, off, none⟩) N cap, .int .i64 a, .int .i64 mm, .int .i64 en, .func (.func 53) #[] #[]] w (Mrgd base b off N f s a en w) := by
  have H0 := Lib.hid hr
  have I1 := Lib.hid hi1
  have I2 := Lib.hid hi2
  have HL := Lib.hid hl
  have HM := Lib.hid h1
  have ca := (hr.2 a (by omega)).1
  have haN : a < N := by omega
  obtain ⟨z1, hz1⟩ : ∃ z1, z1 = mm - a := ⟨_, rfl⟩
  have hone : (mm : Int) - (a : Int) = (z1 : Int) := by omega
  have hwz1 : IntKind.i64.wrap (z1 : Int) = (z1 : Int) := IntWalk.i64_in _ (by omega)
  have heq1 : ((z1 : Int) == 1) = true := by rw [beq_iff_eq]; omega
  clear hi1 hi2 hl h1 hz1
  go_enter Tryd.func69, Tryd.ntmps69
  go_wp2_with (fail)
  clear hone hwz1 heq1
  go_loopw [10, 11] (fun iv jv wr => ∃ i j d : Nat, mm ≤ i ∧ i ≤ j ∧ j ≤ en ∧ iv = .int .i64 i ∧ jv = .int .i64 j ∧ Hid (∀ h, mm ≤ h → h < i → pre f (s h) (s a)) ∧ Hid (∀ h, j ≤ h → h < en → pre f (s a) (s h)) ∧ wr = w.drewN d) (fun iv jv _ => (intOf jv).toNat - (intOf iv).toNat)
  case atStart => exact ⟨mm, en, 0, Nat.le_refl _, by omega, Nat.le_refl _, rfl, rfl, Lib.hid (fun h _ _ => by omega), Lib.hid (fun h _ _ => by omega), rfl⟩
  case round =>
    obtain ⟨i, j, d, hi, hij, hj, rfl, rfl, HA, HB, rfl⟩ := hrel
    have hma := HM.out
    by_cases hlt : i < j
    · obtain ⟨q, hq⟩ : ∃ q, q = i + j := ⟨_, rfl⟩
      obtain ⟨h, hh⟩ : ∃ h, h = q / 2 := ⟨_, rfl⟩
      have hq2 : (i : Int) + (j : Int) = (q : Int) := by omega
      have hh2 : (q : Int) / 2 = (h : Int) := by omega
      have hwq : IntKind.i64.wrap (q : Int) = (q : Int) := IntWalk.i64_in _ (by omega)
      have hwq2 : IntKind.u64.wrap (q : Int) = (q : Int) := IntWalk.u64_in _ (by omega)
      have hwh : IntKind.i64.wrap (h : Int) = (h : Int) := IntWalk.i64_in _ (by omega)
      have hwh2 : IntKind.u64.wrap (h : Int) = (h : Int) := IntWalk.u64_in _ (by omega)
      have hh0 : i ≤ h := by omega
      have hh1 : h < j := by omega
      have hhN : h < N := by omega
      have ch := (hr.2 h hhN).1
      have htl := HL.out a h (Nat.le_refl _) (by omega) (by omega) (by omega)
      have HQ := Lib.hid hq
      have HH := Lib.hid hh
      clear hr hq hh hma
      by_cases hc : cmpI (f (s h)) (f (s a)) < 0
      · have hp := (pre_cmp htl).1 hc
        have HP := Lib.hid hp
        clear hp htl
        go_wp2_with (fail)
        go_big_quiet (first | (go_at_call 53; first | exact quiet_more (compare_any _ _ _) | exact Calls.quiet_of_same (compare_any _ _ _)) | exact quiet_more (compare_any _ _ _) | exact Calls.quiet_of_same (compare_any _ _ _))
        go_wp2_with (fail)
        go_roundw
        case rel => exact ⟨h + 1, j, d + nq, by omega, by omega, hj, by go_num, rfl, Lib.hid (fun k k0 k1 => by
          by_cases e : k = h
          · subst e; exact HP.out
          · exact pre_trans (I2.out k h (by omega) (by omega) (by omega)) HP.out), HB, (by first | rfl | exact World.drewN_drewN _ _ _)⟩
        case measure => simp [intOf]; omega
      · have hp := pre_not htl hc
        have HP := Lib.hid hp
        clear hp htl
        go_wp2_with (fail)
        go_big_quiet (first | (go_at_call 53; first | exact quiet_more (compare_any _ _ _) | exact Calls.quiet_of_same (compare_any _ _ _)) | exact quiet_more (compare_any _ _ _) | exact Calls.quiet_of_same (compare_any _ _ _))
        go_wp2_with (fail)
        go_roundw
        case rel => exact ⟨i, h, d + nq, hi, by omega, by omega, rfl, rfl, HA, Lib.hid (fun k k0 k1 => by
          by_cases e : k = h
          · subst e; exact HP.out
          · exact pre_trans HP.out (I2.out h k (by omega) (by omega) (by omega))), (by first | rfl | exact World.drewN_drewN _ _ _)⟩
        case measure => simp [intOf]; omega
    · obtain rfl : i = j := by omega
      obtain ⟨z, hz⟩ : ∃ z, z = i - 1 := ⟨_, rfl⟩
      have hz2 : (i : Int) - 1 = (z : Int) := by omega
      have hwz : IntKind.i64.wrap (z : Int) = (z : Int) := IntWalk.i64_in _ (by omega)
      have haz : a ≤ z := by omega
      have hzi : z + 1 = i := by omega
      have HZ := Lib.hid hz
      clear hr ca hz hma
      go_wp2_with (fail)
      go_loopw [13] (fun kv wr => ∃ k : Nat, a ≤ k ∧ k ≤ z ∧ kv = .int .i64 k ∧ SRow wr b off N f (rot a (a + 1) (k + 1) s) ∧ Below base w wr) (fun kv _ => z - (intOf kv).toNat)
      case atStart => exact ⟨a, Nat.le_refl _, haz, rfl, by rw [rot_none a (a + 1) (a + 1) s (.inr rfl) (by omega) (Nat.le_refl _)]; exact H0.out.drewN _, below_drewN (Below.refl _ _) _⟩
      case round =>
        obtain ⟨k, hka, hkz, rfl, hS, hbt⟩ := hrel
        by_cases hk : k < z
        · obtain ⟨p, hp⟩ : ∃ p, p = k + 1 := ⟨_, rfl⟩
          have hp2 : (k : Int) + 1 = (p : Int) := by omega
          have hwp : IntKind.i64.wrap (p : Int) = (p : Int) := IntWalk.i64_in _ (by omega)
          have hpN : p < N := by omega
          have hkN : k < N := by omega
          have cp := (hS.2 p hpN).1
          have ck := (hS.2 k hkN).1
          have fp := (hS.2 p hpN).2
          have fk := (hS.2 k hkN).2
          have hst : swx (rot a (a + 1) (k + 1) s) k p = rot a (a + 1) (k + 2) s := by rw [hp]; exact rot_head s hka
          have hD := fun q => hS.swap q hkN hpN (by omega)
          rw [hst] at hD
          have HDx := Lib.hid hD
          have HP := Lib.hid hp
          clear hD hst hS hp
          generalize f (rot a (a + 1) (k + 1) s k) = vk at *
          generalize f (rot a (a + 1) (k + 1) s p) = vp at *
          go_wp2_with (fail)
          go_region
          all_goals go_wp2
          go_roundw
          case rel =>
            have e1 := HP.out
            exact ⟨p, by omega, by omega, rfl, by rw [show p + 1 = k + 2 by omega]; exact HDx.out 1, ((below_drewN hbt 1).setCell (p := ⟨b, _, none⟩) hbase _).setCell (p := ⟨b, _, none⟩) hbase _⟩
          case measure => have e1 := HP.out; simp [intOf]; omega
        · obtain rfl : k = z := by omega
          rw [hzi] at hS
          have HS := Lib.hid hS
          clear hS
          go_wp2_with (fail)
          go_end0
          refine ⟨rfl, ⟨_, ?_, ?_, HS.out⟩, hbt⟩
          · exact (rot_rm s (by omega) (by omega)).mono (Nat.le_refl _) (by omega)
          · have hma := HM.out
            have P := part_of (st := a) (md := k) (en := i) I1.out I2.out HL.out (Nat.le_refl _) (by omega) (by omega) (by omega) (by omega) (fun _ _ => HA.out (i - 1) (by omega) (by omega)) (fun h => absurd h (Nat.lt_irrefl _))
            rw [hma] at P
            have hr2 : Inc f (rot a (a + 1) i s) k en := Inc.join P.i3 P.i4 (fun x y x0 x1 y0 y1 => by
              have ex : rot a (a + 1) i s x = s a := by unfold rot; rw [if_neg (by omega), if_pos (by omega)]; congr 1; omega
              have ey : rot a (a + 1) i s y = s y := by unfold rot; rw [if_neg (by omega), if_neg (by omega)]
              rw [ex, ey]; exact HB.out y y0 y1)
            exact (P.done hka (by omega) (Rm.refl _ _ _) (P.left (by omega) (Nat.le_refl _) hka) (Rm.refl _ _ _) hr2).1
theorem merge_tail (b off cap N a mm en : Nat) (f s : Nat → Nat) (base : Nat) (w : World) (hr : SRow w b off N f s) (hbase : base ≤ b) (h0 : a < mm) (h1 : ¬ mm = a + 1) (h2 : en = mm + 1) (he : en ≤ N) (hi1 : Inc f s a mm) (hi2 : Inc f s mm en) (hl : LR s a mm en) (hN : N ≤ 1152921504606846976) :
    Calls Tryd.prog 69 #[.slice (some ⟨b, off, none⟩) N cap, .int .i64 a, .int .i64 mm, .int .i64 en, .func (.func 53) #[] #[]] w (Mrgd base b off N f s a en w) := by
  have H0 := Lib.hid hr
  have I1 := Lib.hid hi1
  have I2 := Lib.hid hi2
  have HL := Lib.hid hl
  have HM := Lib.hid h2
  have hmN : mm < N := by omega
  have cm := (hr.2 mm hmN).1
  obtain ⟨z1, hz1⟩ : ∃ z1, z1 = mm - a := ⟨_, rfl⟩
  have hone : (mm : Int) - (a : Int) = (z1 : Int) := by omega
  have hwz1 : IntKind.i64.wrap (z1 : Int) = (z1 : Int) := IntWalk.i64_in _ (by omega)
  have heq1 : ((z1 : Int) == 1) = false := by rw [beq_eq_false_iff_ne]; omega
  obtain ⟨z2, hz2⟩ : ∃ z2, z2 = en - mm := ⟨_, rfl⟩
  have hone2 : (en : Int) - (mm : Int) = (z2 : Int) := by omega
  have hwz2 : IntKind.i64.wrap (z2 : Int) = (z2 : Int) := IntWalk.i64_in _ (by omega)
  have heq2 : ((z2 : Int) == 1) = true := by rw [beq_iff_eq]; omega
  clear hi1 hi2 hl h1 h2 hz1 hz2
  go_enter Tryd.func69, Tryd.ntmps69
  go_wp2_with (fail)
  clear hone hwz1 heq1 hone2 hwz2 heq2
  go_loopw [14, 15] (fun iv jv wr => ∃ i j d : Nat, a ≤ i ∧ i ≤ j ∧ j ≤ mm ∧ iv = .int .i64 i ∧ jv = .int .i64 j ∧ Hid (∀ h, a ≤ h → h < i → pre f (s h) (s mm)) ∧ Hid (∀ h, j ≤ h → h < mm → pre f (s mm) (s h)) ∧ wr = w.drewN d) (fun iv jv _ => (intOf jv).toNat - (intOf iv).toNat)
  case atStart => exact ⟨a, mm, 0, Nat.le_refl _, by omega, Nat.le_refl _, rfl, rfl, Lib.hid (fun h _ _ => by omega), Lib.hid (fun h _ _ => by omega), rfl⟩
  case round =>
    obtain ⟨i, j, d, hi, hij, hj, rfl, rfl, HA, HB, rfl⟩ := hrel
    by_cases hlt : i < j
    · obtain ⟨q, hq⟩ : ∃ q, q = i + j := ⟨_, rfl⟩
      obtain ⟨h, hh⟩ : ∃ h, h = q / 2 := ⟨_, rfl⟩
      have hq2 : (i : Int) + (j : Int) = (q : Int) := by omega
      have hh2 : (q : Int) / 2 = (h : Int) := by omega
      have hwq : IntKind.i64.wrap (q : Int) = (q : Int) := IntWalk.i64_in _ (by omega)
      have hwq2 : IntKind.u64.wrap (q : Int) = (q : Int) := IntWalk.u64_in _ (by omega)
      have hwh : IntKind.i64.wrap (h : Int) = (h : Int) := IntWalk.i64_in _ (by omega)
      have hwh2 : IntKind.u64.wrap (h : Int) = (h : Int) := IntWalk.u64_in _ (by omega)
      have hh0 : i ≤ h := by omega
      have hh1 : h < j := by omega
      have hhN : h < N := by omega
      have ch := (hr.2 h hhN).1
      have htl := HL.out h mm (by omega) (by omega) (Nat.le_refl _) (by have := HM.out; omega)
      have HQ := Lib.hid hq
      have HH := Lib.hid hh
      clear hr hq hh
      by_cases hc : cmpI (f (s mm)) (f (s h)) < 0
      · have hp := (pre_cmp htl).1 hc
        have HP := Lib.hid hp
        clear hp htl
        go_wp2_with (fail)
        go_big_quiet (first | (go_at_call 53; first | exact quiet_more (compare_any _ _ _) | exact Calls.quiet_of_same (compare_any _ _ _)) | exact quiet_more (compare_any _ _ _) | exact Calls.quiet_of_same (compare_any _ _ _))
        go_wp2_with (fail)
        go_roundw
        case rel => exact ⟨i, h, d + nq, hi, by omega, by omega, rfl, rfl, HA, Lib.hid (fun k k0 k1 => by
          by_cases e : k = h
          · subst e; exact HP.out
          · exact pre_trans HP.out (I1.out h k (by omega) (by omega) (by omega))), (by first | rfl | exact World.drewN_drewN _ _ _)⟩
        case measure => simp [intOf]; omega
      · have hcb : (!decide (cmpI (f (s mm)) (f (s h)) < 0)) = true := by rw [decide_eq_false hc]; rfl
        have hp := pre_not htl hc
        have HP := Lib.hid hp
        clear hp htl
        go_wp2_with (fail)
        go_big_quiet (first | (go_at_call 53; first | exact quiet_more (compare_any _ _ _) | exact Calls.quiet_of_same (compare_any _ _ _)) | exact quiet_more (compare_any _ _ _) | exact Calls.quiet_of_same (compare_any _ _ _))
        go_wp2_with (fail)
        go_roundw
        case rel => exact ⟨h + 1, j, d + nq, by omega, by omega, hj, by go_num, rfl, Lib.hid (fun k k0 k1 => by
          by_cases e : k = h
          · subst e; exact HP.out
          · exact pre_trans (I1.out k h (by omega) (by omega) (by omega)) HP.out), HB, (by first | rfl | exact World.drewN_drewN _ _ _)⟩
        case measure => simp [intOf]; omega
    · obtain rfl : i = j := by omega
      clear hr cm
      go_wp2_with (fail)
      go_loopw [17] (fun kv wr => ∃ k : Nat, i ≤ k ∧ k ≤ mm ∧ kv = .int .i64 k ∧ SRow wr b off N f (rot k mm (mm + 1) s) ∧ Below base w wr) (fun kv _ => (intOf kv).toNat)
      case atStart => exact ⟨mm, hj, Nat.le_refl _, rfl, by rw [rot_none mm mm (mm + 1) s (.inl rfl) (Nat.le_refl _) (by omega)]; exact H0.out.drewN _, below_drewN (Below.refl _ _) _⟩
      case round =>
        obtain ⟨k, hik, hkm, rfl, hS, hbt⟩ := hrel
        by_cases hk : i < k
        · obtain ⟨p, hp⟩ : ∃ p, p = k - 1 := ⟨_, rfl⟩
          have hp2 : (k : Int) - 1 = (p : Int) := by omega
          have hwp : IntKind.i64.wrap (p : Int) = (p : Int) := IntWalk.i64_in _ (by omega)
          have hpN : p < N := by omega
          have hkN : k < N := by omega
          have cp := (hS.2 p hpN).1
          have ck := (hS.2 k hkN).1
          have fp := (hS.2 p hpN).2
          have fk := (hS.2 k hkN).2
          have hst : swx (rot k mm (mm + 1) s) k p = rot p mm (mm + 1) s := by rw [hp]; exact rot_tail s (by omega) hkm
          have hD := fun q => hS.swap q hkN hpN (by omega)
          rw [hst] at hD
          have HDx := Lib.hid hD
          have HP := Lib.hid hp
          clear hD hst hS hp
          generalize f (rot k mm (mm + 1) s k) = vk at *
          generalize f (rot k mm (mm + 1) s p) = vp at *
          go_wp2_with (fail)
          go_region
          all_goals go_wp2
          go_roundw
          case rel =>
            have e1 := HP.out
            exact ⟨p, by omega, by omega, by go_num, HDx.out 1, ((below_drewN hbt 1).setCell (p := ⟨b, _, none⟩) hbase _).setCell (p := ⟨b, _, none⟩) hbase _⟩
          case measure => have e1 := HP.out; simp [intOf]; omega
        · obtain rfl : k = i := by omega
          have HS := Lib.hid hS
          clear hS
          go_wp2_with (fail)
          go_end0
          have hma := HM.out
          subst hma
          refine ⟨rfl, ⟨_, ?_, ?_, HS.out⟩, hbt⟩
          · exact (rot_rm s (by omega) (by omega)).mono (by omega) (by omega)
          · have P := part_of (st := k) (md := k + 1) (en := mm + 1) I1.out I2.out HL.out (by omega) (by omega) (by omega) (by omega) (by omega) (fun _ _ => HB.out k (by omega) (by omega)) (fun _ h => absurd h (Nat.lt_irrefl _))
            have hr2 : Inc f (rot k mm (mm + 1) s) a (k + 1) := Inc.join P.i1 P.i2 (fun x y x0 x1 y0 y1 => by
              have ex : rot k mm (mm + 1) s x = s x := by unfold rot; rw [if_neg (by omega), if_neg (by omega)]
              have ey : rot k mm (mm + 1) s y = s mm := by unfold rot; rw [if_pos (by omega)]; congr 1; omega
              rw [ex, ey]; exact HA.out x x0 x1)
            exact (P.done (by omega) (by omega) (Rm.refl _ _ _) hr2 (Rm.refl _ _ _) (P.right (by omega) (by omega) (Nat.le_refl _))).1

end Go.Proofs.YtjcgachdnkdamaaDoor
