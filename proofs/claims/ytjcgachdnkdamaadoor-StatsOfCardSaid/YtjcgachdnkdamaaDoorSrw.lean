/- The walks of slices.SortStableFunc's parts at floats, by metric.Compare. Conditions: as each theorem's hypotheses say; rows of less than 2^60 floats. -/
import Derived.Test.YtjcgachdnkdamaaDoorHgw
import Derived.Test.YtjcgachdnkdamaaDoorSrt
import Derived.BigRegion
import Derived.BigQuiet
import Derived.IntWalk
import Derived.RegionTactic
namespace Go.Proofs.YtjcgachdnkdamaaDoor
open Go.RowKit Flt Go.Mem Go.Lib

theorem run_store_float (P : Program) (w : World) (a : Addr) (m : Mode) (k : FloatKind) (b : Nat) : (store a (.float k b) m).run P w = stored P w a (.float k b) m := run_store P w a _ m rfl
attribute [local go_sem] run_store_float
set_option maxHeartbeats 1600000
/-- a row of floats that may be written: its data is f by way of s -/
def SRow (w : World) (b off n : Nat) (f s : Nat → Nat) : Prop := b < w.heap.size ∧ ∀ i, i < n → w.cell? ⟨b, off + i, none⟩ = some (.float .f64 (f (s i))) ∧ w.frozen? ⟨b, off + i, none⟩ = false
theorem SRow.drewN {w : World} {b off n : Nat} {f s : Nat → Nat} (h : SRow w b off n f s) (q : Nat) : SRow (w.drewN q) b off n f s := h
theorem SRow.swap {w : World} {b off n i j : Nat} {f s : Nat → Nat} (q : Nat) (h : SRow w b off n f s) (hi : i < n) (hj : j < n) (hij : i ≠ j) :
    SRow (((w.drewN q).setCell ⟨b, off + i, none⟩ (.float .f64 (f (s j)))).setCell ⟨b, off + j, none⟩ (.float .f64 (f (s i)))) b off n f (swx s i j) := by
  obtain ⟨hb, hc⟩ := h
  refine ⟨by simpa [World.setCell] using hb, fun t ht => ?_⟩
  have c0 := (hc t ht).1
  have ci := (hc i hi).1
  have cj := (hc j hj).1
  have f0 := (hc t ht).2
  have e1 : (⟨b, off + i, none⟩ : Addr) ≠ ⟨b, off + j, none⟩ := by simp <;> omega
  constructor
  · by_cases ht2 : t = j
    · subst ht2
      have : ((w.drewN q).setCell ⟨b, off + i, none⟩ (.float .f64 (f (s t)))).cell? ⟨b, off + t, none⟩ = some (.float .f64 (f (s t))) := by
        rw [World.cell?_setCell_other _ _ _ _ e1]; exact cj
      rw [World.cell?_setCell_same _ _ _ this]
      unfold swx; rw [if_neg (by omega), if_pos rfl]
    · rw [World.cell?_setCell_other _ _ _ _ (by simp <;> omega)]
      by_cases ht3 : t = i
      · subst ht3
        rw [World.cell?_setCell_same (w.drewN q) _ _ (u := .float .f64 (f (s t))) ci]
        unfold swx; rw [if_pos rfl]
      · rw [World.cell?_setCell_other _ _ _ _ (by simp <;> omega)]
        refine Eq.trans c0 ?_
        unfold swx; rw [if_neg ht3, if_neg ht2]
  · simpa [go_sem] using f0
theorem swapR_any (b off cap N x y k : Nat) (cv : Value) (f s : Nat → Nat) (base : Nat) (w : World) (hr : SRow w b off N f s) (hbase : base ≤ b) (h1 : x + k ≤ y) (h2 : y + k ≤ N) (hN : N ≤ 1152921504606846976) :
    Calls Tryd.prog 83 #[.slice (some ⟨b, off, none⟩) N cap, .int .i64 x, .int .i64 y, .int .i64 k, cv] w fun e w' => e = .returned (.tuple #[]) ∧ SRow w' b off N f (swR x y k s) ∧ Below base w w' := by
  have H0 := Lib.hid hr
  have HX := Lib.hid h1
  clear hr
  go_enter Tryd.func83, Tryd.ntmps83
  go_wp2
  go_loopw [10] (fun iv wr => ∃ i : Nat, i ≤ k ∧ iv = .int .i64 i ∧ SRow wr b off N f (swR x y i s) ∧ Below base w wr) (fun iv _ => k - (intOf iv).toNat)
  case atStart => exact ⟨0, Nat.zero_le _, rfl, by rw [swR_zero]; exact H0.out, Below.refl _ _⟩
  case round =>
    obtain ⟨i, hi, rfl, hS, hbt⟩ := hrel
    by_cases hik : i < k
    · obtain ⟨p, hp⟩ : ∃ p, p = x + i := ⟨_, rfl⟩
      obtain ⟨q, hq⟩ : ∃ q, q = y + i := ⟨_, rfl⟩
      have hp2 : (x : Int) + (i : Int) = (p : Int) := by omega
      have hq2 : (y : Int) + (i : Int) = (q : Int) := by omega
      have hpN : p < N := by omega
      have hqN : q < N := by omega
      have hwp : IntKind.i64.wrap (p : Int) = (p : Int) := IntWalk.i64_in _ (by omega)
      have hwq : IntKind.i64.wrap (q : Int) = (q : Int) := IntWalk.i64_in _ (by omega)
      have hst := swR_step (n := k) (i := i) s hik h1
      rw [← hp, ← hq] at hst
      have hne : p ≠ q := by omega
      have cp := (hS.2 p hpN).1
      have cq := (hS.2 q hqN).1
      have fp := (hS.2 p hpN).2
      have fq := (hS.2 q hqN).2
      have hDx := fun d => hS.swap d hpN hqN hne
      rw [hst] at hDx
      have HDx := Lib.hid hDx
      have HP := Lib.hid hp
      have HQ := Lib.hid hq
      clear hDx hS hst hp hq
      generalize f (swR x y i s p) = vp at *
      generalize f (swR x y i s q) = vq at *
      go_wp2_with (fail)
      go_region
      all_goals go_wp2
      go_roundw
      case rel => exact ⟨i + 1, by omega, by go_num, HDx.out 1, ((below_drewN hbt 1).setCell (p := ⟨b, _, none⟩) hbase _).setCell (p := ⟨b, _, none⟩) hbase _⟩
      case measure => simp [intOf]; omega
    · obtain rfl : i = k := by omega
      have HS := Lib.hid hS
      clear hS
      go_wp2
      go_end0
      exact ⟨rfl, HS.out, hbt⟩
theorem rotate_any (b off cap N a mm bb : Nat) (cv : Value) (f s : Nat → Nat) (base : Nat) (w : World) (hr : SRow w b off N f s) (hbase : base ≤ b) (h0 : a < mm) (h1 : mm < bb) (h2 : bb ≤ N) (hN : N ≤ 1152921504606846976) :
    Calls Tryd.prog 78 #[.slice (some ⟨b, off, none⟩) N cap, .int .i64 a, .int .i64 mm, .int .i64 bb, cv] w fun e w' => e = .returned (.tuple #[]) ∧ SRow w' b off N f (rot a mm bb s) ∧ Below base w w' := by
  have H0 := Lib.hid hr
  clear hr
  have SW := Lib.hid (fun x y k cur w' (h : SRow w' b off N f cur) h1 h2 => swapR_any b off cap N x y k cv f cur base w' h hbase h1 h2 hN)
  obtain ⟨i0, hi0⟩ : ∃ i, i = mm - a := ⟨_, rfl⟩
  obtain ⟨j0, hj0⟩ : ∃ j, j = bb - mm := ⟨_, rfl⟩
  have hi2 : (mm : Int) - (a : Int) = (i0 : Int) := by omega
  have hj2 : (bb : Int) - (mm : Int) = (j0 : Int) := by omega
  have hwi : IntKind.i64.wrap (i0 : Int) = (i0 : Int) := IntWalk.i64_in _ (by omega)
  have hwj : IntKind.i64.wrap (j0 : Int) = (j0 : Int) := IntWalk.i64_in _ (by omega)
  have HI := Lib.hid hi0
  have HJ := Lib.hid hj0
  clear hi0 hj0
  go_enter Tryd.func78, Tryd.ntmps78
  go_wp2_with (fail)
  go_loopw [10, 11] (fun iv jv wr => ∃ (i j : Nat) (cur : Nat → Nat), 0 < i ∧ 0 < j ∧ i ≤ i0 ∧ j ≤ j0 ∧ iv = .int .i64 i ∧ jv = .int .i64 j ∧ SRow wr b off N f cur ∧ Hid (rot (mm - i) mm (mm + j) cur = rot a mm bb s) ∧ Below base w wr) (fun iv jv _ => (intOf iv).toNat + (intOf jv).toNat)
  case atStart =>
    have e1 := HI.out
    have e2 := HJ.out
    exact ⟨i0, j0, s, by omega, by omega, Nat.le_refl _, Nat.le_refl _, rfl, rfl, H0.out, Lib.hid (by rw [show mm - i0 = a by omega, show mm + j0 = bb by omega]), Below.refl _ _⟩
  case round =>
    obtain ⟨i, j, cur, hi, hj, hii, hjj, rfl, rfl, hS, HR, hbt⟩ := hrel
    have him : i ≤ mm := by have := HI.out; omega
    have hjb : mm + j ≤ bb := by have := HJ.out; omega
    clear hi2 hj2 hwi hwj H0
    obtain ⟨p, hp⟩ : ∃ p, p = mm - i := ⟨_, rfl⟩
    have hp2 : (mm : Int) - (i : Int) = (p : Int) := by omega
    have hwp : IntKind.i64.wrap (p : Int) = (p : Int) := IntWalk.i64_in _ (by omega)
    have HS := Lib.hid hS
    clear hS
    rcases Nat.lt_trichotomy i j with hij | hij | hij
    · obtain ⟨q, hq⟩ : ∃ q, q = mm + j := ⟨_, rfl⟩
      obtain ⟨y, hy⟩ : ∃ y, y = mm + j - i := ⟨_, rfl⟩
      obtain ⟨d, hd⟩ : ∃ d, d = j - i := ⟨_, rfl⟩
      have hq2 : (mm : Int) + (j : Int) = (q : Int) := by omega
      have hy2 : (q : Int) - (i : Int) = (y : Int) := by omega
      have hd2 : (j : Int) - (i : Int) = (d : Int) := by omega
      have hwq : IntKind.i64.wrap (q : Int) = (q : Int) := IntWalk.i64_in _ (by omega)
      have hwy : IntKind.i64.wrap (y : Int) = (y : Int) := IntWalk.i64_in _ (by omega)
      have hwd : IntKind.i64.wrap (d : Int) = (d : Int) := IntWalk.i64_in _ (by omega)
      have hne : ((i : Int) == (j : Int)) = false := by rw [beq_eq_false_iff_ne]; omega
      have SC := SW.out p y i cur wr HS.out (by omega) (by omega)
      have hrot := rot_lt (m := mm) cur hij him
      rw [← hp, ← hy, ← hd] at hrot
      have hR0 := HR.out
      rw [← hp] at hR0
      have HROT := Lib.hid (hrot.trans hR0)
      have HSC := Lib.hid SC
      have HP := Lib.hid hp
      have HQ := Lib.hid hq
      have HY := Lib.hid hy
      have HD := Lib.hid hd
      clear SC hrot hR0 hp hq hy hd
      go_wp2_with (fail)
      refine HSC.out.mono ?_
      rintro e w1 ⟨rfl, hS1, hb1⟩
      have HS1 := Lib.hid hS1
      clear hS1
      go_wp2_with (fail)
      go_roundw
      case rel =>
        have e1 := HP.out
        have e2 := HD.out
        exact ⟨i, d, _, hi, by omega, hii, by omega, rfl, rfl, HS1.out, Lib.hid (by rw [← HP.out]; exact HROT.out), hbt.trans hb1⟩
      case measure => have e2 := HD.out; simp [intOf]; omega
    · subst hij
      have SC := SW.out p mm i cur wr HS.out (by omega) (by omega)
      have hrot := rot_eq (m := mm) cur him
      rw [HR.out, ← hp] at hrot
      rw [hrot] at SC
      have HSC := Lib.hid SC
      have HP := Lib.hid hp
      clear SC hrot hp
      go_wp2_with (fail)
      refine HSC.out.mono ?_
      rintro e w1 ⟨rfl, hS1, hb1⟩
      have HS1 := Lib.hid hS1
      clear hS1
      go_wp2_with (fail)
      go_end0
      exact ⟨rfl, HS1.out, hbt.trans hb1⟩
    · obtain ⟨d, hd⟩ : ∃ d, d = i - j := ⟨_, rfl⟩
      have hd2 : (i : Int) - (j : Int) = (d : Int) := by omega
      have hwd : IntKind.i64.wrap (d : Int) = (d : Int) := IntWalk.i64_in _ (by omega)
      have hne : ((i : Int) == (j : Int)) = false := by rw [beq_eq_false_iff_ne]; omega
      have SC := SW.out p mm j cur wr HS.out (by omega) (by omega)
      have hrot := rot_gt (m := mm) cur hij him
      rw [← hp, ← hd] at hrot
      have hR0 := HR.out
      rw [← hp] at hR0
      have HROT := Lib.hid (hrot.trans hR0)
      have HSC := Lib.hid SC
      have HP := Lib.hid hp
      have HD := Lib.hid hd
      clear SC hrot hR0 hp hd
      go_wp2_with (fail)
      refine HSC.out.mono ?_
      rintro e w1 ⟨rfl, hS1, hb1⟩
      have HS1 := Lib.hid hS1
      clear hS1
      go_wp2_with (fail)
      go_roundw
      case rel =>
        have e1 := HP.out
        have e2 := HD.out
        exact ⟨d, j, _, by omega, hj, by omega, hjj, rfl, rfl, HS1.out, HROT, hbt.trans hb1⟩
      case measure => have e2 := HD.out; simp [intOf]; omega
theorem ccmp_any (a b : Nat) (ha : isnan a = false) (hb : isnan b = false) (w : World) : Calls Tryd.prog 62 #[.float .f64 a, .float .f64 b] w fun e w' => e = .returned (.int .i64 (cmpI a b)) ∧ w' = w := by
  go_enter Tryd.func62, Tryd.ntmps62
  go_wp2_with (go_at_call 70; refine (cisnan_any _ _).mono ?_; rintro e w' ⟨rfl, rfl⟩)
  all_goals
    go_ret
    refine ⟨ret_int ?_, rfl⟩
    unfold cmpI
    simp [*]
set_option maxHeartbeats 400000 in
theorem compare_any (a b : Nat) (w : World) : Calls Tryd.prog 53 #[.float .f64 a, .float .f64 b] w fun e w' => e = .returned (.int .i64 (cmpI a b)) ∧ w' = w := by
  cases ha : isnan a <;> cases hb : isnan b
  all_goals
    go_enter Tryd.func53, Tryd.ntmps53
    go_wp2_with (first | (go_at_call 28; refine (isnan_any _ _).mono ?_; rintro e w' ⟨rfl, rfl⟩) | (go_at_call 62; refine (ccmp_any _ _ ha hb _).mono ?_; rintro e w' ⟨rfl, rfl⟩))
    go_ret
    refine ⟨ret_int ?_, rfl⟩
    first | rfl | (unfold cmpI; rw [ha, hb]; rfl)

theorem insert_any (b off cap N a en : Nat) (f s : Nat → Nat) (base : Nat) (w : World) (hr : SRow w b off N f s) (hbase : base ≤ b) (ha : a ≤ en) (he : en ≤ N) (htag : ∀ i j, a ≤ i → i < j → j < en → s i < s j) (hN : N ≤ 1152921504606846976) :
    Calls Tryd.prog 68 #[.slice (some ⟨b, off, none⟩) N cap, .int .i64 a, .int .i64 en, .func (.func 53) #[] #[]] w fun e w' => e = .returned (.tuple #[]) ∧ (∃ t, Rm a en s t ∧ Inc f t a en ∧ SRow w' b off N f t) ∧ Below base w w' := by
  have H0 := Lib.hid hr
  have HT := Lib.hid htag
  clear hr htag
  go_enter Tryd.func68, Tryd.ntmps68
  go_wp2_with (fail)
  go_loopw [8] (fun iv wr => ∃ (i : Nat) (t : Nat → Nat), a < i ∧ (i ≤ en ∨ (i = a + 1 ∧ t = s)) ∧ iv = .int .i64 i ∧ Hid (Inc f t a i) ∧ Hid (Rm a i s t) ∧ SRow wr b off N f t ∧ Below base w wr) (fun iv _ => en - (intOf iv).toNat)
  case atStart => exact ⟨a + 1, s, by omega, .inr ⟨rfl, rfl⟩, by go_num, Lib.hid (Inc.one f s a), Lib.hid (Rm.refl _ _ _), H0.out, Below.refl _ _⟩
  case round =>
    obtain ⟨i, t, hai, hi, rfl, HI, HR, hS, hbt⟩ := hrel
    have HS := Lib.hid hS
    clear hS
    by_cases hie : i < en
    · obtain ⟨wA, rfl⟩ : ∃ wA : World, wA = wr := ⟨_, rfl⟩
      have HB := Lib.hid hbt
      clear hbt hi
      go_wp2_with (fail)
      go_loopw [9] (fun jv wr => ∃ (j : Nat) (u : Nat → Nat), Hid (Ins f t u a i j) ∧ jv = .int .i64 j ∧ a ≤ j ∧ j ≤ i ∧ SRow wr b off N f u ∧ Below base w wr) (fun jv _ => (intOf jv).toNat)
      case atStart => exact ⟨i, t, Lib.hid (Ins.start (by omega)), rfl, by omega, Nat.le_refl _, HS.out, HB.out⟩
      case round =>
        obtain ⟨j, u, HU, rfl, haj, hji, hS, hbt⟩ := hrel
        by_cases hj : a < j
        · obtain ⟨p, hp⟩ : ∃ p, p = j - 1 := ⟨_, rfl⟩
          have hp2 : (j : Int) - 1 = (p : Int) := by omega
          have hwp : IntKind.i64.wrap (p : Int) = (p : Int) := IntWalk.i64_in _ (by omega)
          have hpN : p < N := by omega
          have hjN : j < N := by omega
          have htl : u p < u j := by
            have h1 := HU.out.2.2.1
            have h2 := HU.out.2.2.2.1 p (by omega) (by omega)
            obtain ⟨k, k0, k1, e⟩ := HR.out.2 p (by omega) (by omega)
            have h3 := HR.out.1 i (by omega)
            rw [h1, h2, e, h3]
            exact HT.out k i k0 k1 hie
          have cp := (hS.2 p hpN).1
          have cj := (hS.2 j hjN).1
          have fp := (hS.2 p hpN).2
          have fj := (hS.2 j hjN).2
          by_cases hc : cmpI (f (u j)) (f (u p)) < 0
          · have hstep := HU.out.step hj (by rw [← hp]; exact (pre_cmp htl).1 hc)
            rw [← hp] at hstep
            have HST := Lib.hid hstep
            have HDx := Lib.hid (fun q => hS.swap q hjN hpN (by omega))
            have HP := Lib.hid hp
            clear hstep hS hp htl
            generalize f (u j) = vj at *
            generalize f (u p) = vp at *
            go_wp2_with (fail)
            go_big_quiet (first | (go_at_call 53; first | exact quiet_more (compare_any _ _ _) | exact Calls.quiet_of_same (compare_any _ _ _)) | exact quiet_more (compare_any _ _ _) | exact Calls.quiet_of_same (compare_any _ _ _))
            go_wp2_with (fail)
            go_region
            all_goals go_wp2
            go_roundw
            case rel =>
              have e1 := HP.out
              exact ⟨p, _, HST, by go_num, by omega, by omega, HDx.out _, ((below_drewN hbt _).setCell (p := ⟨b, _, none⟩) hbase _).setCell (p := ⟨b, _, none⟩) hbase _⟩
            case measure => have e1 := HP.out; simp [intOf]; omega
          · have hd := HU.out.done HI.out (fun _ => by rw [← hp]; exact pre_not htl hc)
            have HD1 := Lib.hid hd.1
            have HD2 := Lib.hid (((HR.out.mono (Nat.le_refl _) (by omega)).trans hd.2 : Rm a (i + 1) s u))
            have HS2 := Lib.hid hS
            clear hd hS hp htl
            generalize f (u j) = vj at *
            generalize f (u p) = vp at *
            go_wp2_with (fail)
            go_big_quiet (first | (go_at_call 53; first | exact quiet_more (compare_any _ _ _) | exact Calls.quiet_of_same (compare_any _ _ _)) | exact quiet_more (compare_any _ _ _) | exact Calls.quiet_of_same (compare_any _ _ _))
            go_wp2_with (fail)
            go_roundw
            case rel => exact ⟨i + 1, u, by omega, .inl (by omega), by go_num, HD1, HD2, HS2.out.drewN _, below_drewN hbt _⟩
            case measure => simp [intOf]; omega
        · obtain rfl : j = a := by omega
          have hd := HU.out.done HI.out (fun h => absurd h (Nat.lt_irrefl _))
          have HD1 := Lib.hid hd.1
          have HD2 := Lib.hid (((HR.out.mono (Nat.le_refl _) (by omega)).trans hd.2 : Rm j (i + 1) s u))
          have HS2 := Lib.hid hS
          clear hd hS
          go_wp2_with (fail)
          go_big_quiet (first | (go_at_call 53; first | exact quiet_more (compare_any _ _ _) | exact Calls.quiet_of_same (compare_any _ _ _)) | exact quiet_more (compare_any _ _ _) | exact Calls.quiet_of_same (compare_any _ _ _))
          go_wp2_with (fail)
          go_roundw
          case rel => exact ⟨i + 1, u, by omega, .inl (by omega), by go_num, HD1, HD2, HS2.out.drewN _, below_drewN hbt _⟩
          case measure => simp [intOf]; omega
    · have hfin : Hid (∃ t, Rm a en s t ∧ Inc f t a en ∧ SRow wr b off N f t) := Lib.hid (by
        rcases hi with h | ⟨h, rfl⟩
        · have e1 : i = en := by omega
          rw [e1] at HI HR
          exact ⟨t, HR.out, HI.out, HS.out⟩
        · exact ⟨t, Rm.refl _ _ _, fun x y _ _ _ => by omega, HS.out⟩)
      clear hi
      go_wp2_with (fail)
      go_end0
      exact ⟨rfl, hfin.out, hbt⟩

end Go.Proofs.YtjcgachdnkdamaaDoor
