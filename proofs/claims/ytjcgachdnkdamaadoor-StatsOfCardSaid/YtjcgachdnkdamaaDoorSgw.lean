/- The walk of slices.symMergeCmpFunc at floats, the general case, and all cases together. Conditions: as each theorem's hypotheses say; rows of less than 2^60 floats. -/
import Derived.Test.YtjcgachdnkdamaaDoorSmw
namespace Go.Proofs.YtjcgachdnkdamaaDoor
open Go.RowKit Flt Go.Mem Go.Lib
set_option linter.unusedVariables false

attribute [local go_sem] run_store_float
set_option maxHeartbeats 6400000
set_option maxRecDepth 100000
/-- the bounds of the search for the parting -/
structure Srch (a mm en md n0 s0 r0 : Nat) : Prop where make ::
  g0 : a ≤ s0
  g1 : s0 ≤ r0
  g2 : r0 ≤ mm
  g3 : ∀ c, s0 ≤ c → c < r0 → mm ≤ n0 - 1 - c ∧ n0 - 1 - c < en ∧ c + 1 ≤ n0
  g4 : s0 = a ∨ n0 - s0 = en
  g5 : r0 = mm ∨ n0 - r0 = mm
  g6 : n0 - s0 ≤ en
  g7 : mm ≤ n0 - r0
  g8 : r0 ≤ n0
theorem srch_hi {a mm en md n0 : Nat} (h0 : a < mm) (h2 : mm < en) (hmd : md = (a + en) / 2) (hn : n0 = md + mm) (h : md < mm) : Srch a mm en md n0 (n0 - en) md :=
  ⟨by omega, by omega, by omega, fun c _ _ => by omega, .inr (by omega), .inr (by omega), by omega, by omega, by omega⟩
theorem srch_lo {a mm en md n0 : Nat} (h0 : a < mm) (h2 : mm < en) (hmd : md = (a + en) / 2) (hn : n0 = md + mm) (h : ¬ md < mm) : Srch a mm en md n0 a mm :=
  ⟨by omega, by omega, by omega, fun c _ _ => by omega, .inl rfl, .inl rfl, by omega, by omega, by omega⟩
theorem lr_congr {s t : Nat → Nat} {a m b : Nat} (h : LR s a m b) (e : ∀ i, a ≤ i → i < b → t i = s i) : LR t a m b := fun i j i0 i1 j0 j1 => by rw [e i i0 (by omega), e j (by omega) j1]; exact h i j i0 i1 j0 j1
theorem exit_le {a mm en md n0 s0 r0 i e : Nat} (h0 : a < mm) (h2 : mm < en) (hmd : md = (a + en) / 2) (hn : n0 = md + mm) (G : Srch a mm en md n0 s0 r0) (hi : s0 ≤ i) (hj : i ≤ r0) (he : e = n0 - i) : a ≤ i ∧ i ≤ mm ∧ mm ≤ e ∧ e ≤ en ∧ i ≤ md ∧ md ≤ e ∧ a ≤ md ∧ md < en ∧ i + e = n0 ∧ a < md := by
  obtain ⟨g0, g1, g2, g3, g4, g5, g6, g7, g8⟩ := G
  refine ⟨?_, ?_, ?_, ?_, ?_, ?_, ?_, ?_, ?_, ?_⟩ <;> omega
theorem part_at {f s : Nat → Nat} {a mm en md n0 s0 r0 i : Nat} (hn : n0 = md + mm) (h1 : Inc f s a mm) (h2 : Inc f s mm en) (hl : LR s a mm en) (G : Srch a mm en md n0 s0 r0) (hi : s0 ≤ i) (hj : i ≤ r0)
    (HA : ∀ c, s0 ≤ c → c < i → pre f (s c) (s (n0 - 1 - c))) (HB : ∀ c, i ≤ c → c < r0 → pre f (s (n0 - 1 - c)) (s c)) : Part f (rot i mm (n0 - i) s) a i md (n0 - i) en := by
  obtain ⟨g0, g1, g2, g3, g4, g5, g6, g7, g8⟩ := G
  refine part_of h1 h2 hl (by omega) (by omega) (by omega) (by omega) (by omega) (fun k0 k1 => ?_) (fun k0 k1 => ?_)
  · have hir : i < r0 := by omega
    rw [show n0 - i - 1 = n0 - 1 - i by omega]
    exact HB i (Nat.le_refl _) hir
  · have hsi : s0 < i := by omega
    have := HA (i - 1) (by omega) (by omega)
    have hc := g3 (i - 1) (by omega) (by omega)
    rw [show n0 - i = n0 - 1 - (i - 1) by omega]
    exact this
theorem merge_gen_hi (b off cap N a mm en : Nat) (f s : Nat → Nat) (base : Nat) (w : World) (hr : SRow w b off N f s) (hbase : base ≤ b) (h0 : a < mm) (h1 : ¬ mm = a + 1) (h2 : mm < en) (h3 : ¬ en = mm + 1) (he : en ≤ N) (hi1 : Inc f s a mm) (hi2 : Inc f s mm en) (hl : LR s a mm en) (hN : N ≤ 1152921504606846976)
    (hb :  (a + en) / 2 < mm)
    (IH : ∀ a' m' e' s' w', e' - a' < en - a → a' < m' → m' < e' → e' ≤ N → SRow w' b off N f s' → Inc f s' a' m' → Inc f s' m' e' → LR s' a' m' e' → Calls Tryd.prog 69 #[.slice (some ⟨b, off, none⟩) N cap, .int .i64 (a' : Nat), .int .i64 (m' : Nat), .int .i64 (e' : Nat), .func (.func 53) #[] #[]] w' (Mrgd base b off N f s' a' e' w')) :
    Calls Tryd.prog 69 #[.slice (some ⟨b, off, none⟩) N cap, .int .i64 a, .int .i64 mm, .int .i64 en, .func (.func 53) #[] #[]] w (Mrgd base b off N f s a en w) := by
  have H0 := Lib.hid hr
  have I1 := Lib.hid hi1
  have I2 := Lib.hid hi2
  have HL := Lib.hid hl
  have HIH := Lib.hid IH
  obtain ⟨z1, hz1⟩ : ∃ x, x = mm - a := ⟨_, rfl⟩
  have hz12 : (mm : Int) - (a : Int) = (z1 : Int) := by omega
  have hwz1 : IntKind.i64.wrap (z1 : Int) = (z1 : Int) := IntWalk.i64_in _ (by omega)
  obtain ⟨z2, hz2⟩ : ∃ x, x = en - mm := ⟨_, rfl⟩
  have hz22 : (en : Int) - (mm : Int) = (z2 : Int) := by omega
  have hwz2 : IntKind.i64.wrap (z2 : Int) = (z2 : Int) := IntWalk.i64_in _ (by omega)
  obtain ⟨q0, hq0⟩ : ∃ x, x = a + en := ⟨_, rfl⟩
  have hq02 : (a : Int) + (en : Int) = (q0 : Int) := by omega
  have hwq0 : IntKind.i64.wrap (q0 : Int) = (q0 : Int) := IntWalk.i64_in _ (by omega)
  have hvq0 : IntKind.u64.wrap (q0 : Int) = (q0 : Int) := IntWalk.u64_in _ (by omega)
  obtain ⟨md, hmd⟩ : ∃ x, x = q0 / 2 := ⟨_, rfl⟩
  have hmd2 : (q0 : Int) / 2 = (md : Int) := by omega
  have hwmd : IntKind.i64.wrap (md : Int) = (md : Int) := IntWalk.i64_in _ (by omega)
  have hvmd : IntKind.u64.wrap (md : Int) = (md : Int) := IntWalk.u64_in _ (by omega)
  obtain ⟨n0, hn0⟩ : ∃ x, x = md + mm := ⟨_, rfl⟩
  have hn02 : (md : Int) + (mm : Int) = (n0 : Int) := by omega
  have hwn0 : IntKind.i64.wrap (n0 : Int) = (n0 : Int) := IntWalk.i64_in _ (by omega)
  obtain ⟨p0, hp0⟩ : ∃ x, x = n0 - 1 := ⟨_, rfl⟩
  have hp02 : (n0 : Int) - 1 = (p0 : Int) := by omega
  have hwp0 : IntKind.i64.wrap (p0 : Int) = (p0 : Int) := IntWalk.i64_in _ (by omega)
  have heq1 : ((z1 : Int) == 1) = false := by rw [beq_eq_false_iff_ne]; omega
  have heq2 : ((z2 : Int) == 1) = false := by rw [beq_eq_false_iff_ne]; omega
  have hmd0 : md = (a + en) / 2 := by omega
  have hb2 :  md < mm := by rw [hmd0]; exact hb
  have G := srch_hi h0 h2 hmd0 hn0 hb2
  obtain ⟨s0, hs0⟩ : ∃ x, x = n0 - en := ⟨_, rfl⟩
  have hs02 : (n0 : Int) - (en : Int) = (s0 : Int) := by omega
  have hws0 : IntKind.i64.wrap (s0 : Int) = (s0 : Int) := IntWalk.i64_in _ (by omega)
  rw [← hs0] at G
  have HG := Lib.hid G
  have HN0 := Lib.hid hn0
  have HMD := Lib.hid hmd0
  have HP0 := Lib.hid hp0
  clear hi1 hi2 hl IH h1 h3 hz1 hz2 hq0 hmd hn0 hp0 hmd0 hb G hs0
  go_enter Tryd.func69, Tryd.ntmps69
  go_wp2_with (fail)
  clear heq1 heq2 hz12 hwz1 hz22 hwz2
  go_loopw [20, 21] (fun iv jv wr => ∃ i j d : Nat, s0 ≤ i ∧ i ≤ j ∧ j ≤ md ∧ iv = .int .i64 i ∧ jv = .int .i64 j ∧ Hid (∀ c, s0 ≤ c → c < i → pre f (s c) (s (n0 - 1 - c))) ∧ Hid (∀ c, j ≤ c → c < md → pre f (s (n0 - 1 - c)) (s c)) ∧ wr = w.drewN d) (fun iv jv _ => (intOf jv).toNat - (intOf iv).toNat)
  case atStart => exact ⟨s0, md, 0, Nat.le_refl _, HG.out.g1, Nat.le_refl _, rfl, rfl, Lib.hid (fun h _ _ => by omega), Lib.hid (fun h _ _ => by omega), rfl⟩
  case round =>
    obtain ⟨i, j, d, hi, hij, hj, rfl, rfl, HA, HB, rfl⟩ := hrel
    by_cases hlt : i < j
    · obtain ⟨q, hq⟩ : ∃ q, q = i + j := ⟨_, rfl⟩
      obtain ⟨h, hh⟩ : ∃ h, h = q / 2 := ⟨_, rfl⟩
      obtain ⟨e, he0⟩ : ∃ e, e = p0 - h := ⟨_, rfl⟩
      have hG := HG.out.g3 h (by omega) (by omega)
      have hP := HP0.out
      have hR := HG.out.g2
      have hS0 := HG.out.g0
      have hee : n0 - 1 - h = e := by omega
      have hq2 : (i : Int) + (j : Int) = (q : Int) := by omega
      have hh2 : (q : Int) / 2 = (h : Int) := by omega
      have he2 : (p0 : Int) - (h : Int) = (e : Int) := by omega
      have hwq : IntKind.i64.wrap (q : Int) = (q : Int) := IntWalk.i64_in _ (by omega)
      have hwq2 : IntKind.u64.wrap (q : Int) = (q : Int) := IntWalk.u64_in _ (by omega)
      have hwh : IntKind.i64.wrap (h : Int) = (h : Int) := IntWalk.i64_in _ (by omega)
      have hwh2 : IntKind.u64.wrap (h : Int) = (h : Int) := IntWalk.u64_in _ (by omega)
      have hwe : IntKind.i64.wrap (e : Int) = (e : Int) := IntWalk.i64_in _ (by omega)
      have hh0 : i ≤ h := by omega
      have hh1 : h < j := by omega
      have hhN : h < N := by omega
      have heN : e < N := by omega
      have ch := (hr.2 h hhN).1
      have ce := (hr.2 e heN).1
      have htl := HL.out h e (by omega) (by omega) (by omega) (by omega)
      have HE := Lib.hid hee
      have HQ := Lib.hid hq
      have HH := Lib.hid hh
      clear hr hq hh he0 hG hP hee
      by_cases hc : cmpI (f (s e)) (f (s h)) < 0
      · have hp := (pre_cmp htl).1 hc
        have HP := Lib.hid hp
        clear hp htl hR hS0
        go_wp2_with (fail)
        go_big_quiet (first | (go_at_call 53; first | exact quiet_more (compare_any _ _ _) | exact Calls.quiet_of_same (compare_any _ _ _)) | exact quiet_more (compare_any _ _ _) | exact Calls.quiet_of_same (compare_any _ _ _))
        go_wp2_with (fail)
        go_roundw
        case rel => exact ⟨i, h, d + nq, hi, by omega, by omega, rfl, rfl, HA, Lib.hid (fun k k0 k1 => by
          by_cases ek : k = h
          · subst ek; rw [HE.out]; exact HP.out
          · have g3 := HG.out.g3 k (by omega) (by omega)
            have hR := HG.out.g2
            have hS0 := HG.out.g0
            have hE := HE.out
            exact pre_trans (pre_trans (I2.out (n0 - 1 - k) e (by omega) (by omega) (by omega)) HP.out) (I1.out h k (by omega) (by omega) (by omega))), (by first | rfl | exact World.drewN_drewN _ _ _)⟩
        case measure => simp [intOf]; omega
      · have hcb : (!decide (cmpI (f (s e)) (f (s h)) < 0)) = true := by rw [decide_eq_false hc]; rfl
        have hp := pre_not htl hc
        have HP := Lib.hid hp
        clear hp htl hR hS0
        go_wp2_with (fail)
        go_big_quiet (first | (go_at_call 53; first | exact quiet_more (compare_any _ _ _) | exact Calls.quiet_of_same (compare_any _ _ _)) | exact quiet_more (compare_any _ _ _) | exact Calls.quiet_of_same (compare_any _ _ _))
        go_wp2_with (fail)
        go_roundw
        case rel => exact ⟨h + 1, j, d + nq, by omega, by omega, hj, by go_num, rfl, Lib.hid (fun k k0 k1 => by
          by_cases ek : k = h
          · subst ek; rw [HE.out]; exact HP.out
          · have g3 := HG.out.g3 k (by omega) (by omega)
            have hR := HG.out.g2
            have hS0 := HG.out.g0
            have hE := HE.out
            exact pre_trans (pre_trans (I1.out k h (by omega) (by omega) (by omega)) HP.out) (I2.out e (n0 - 1 - k) (by omega) (by omega) (by omega))), HB, (by first | rfl | exact World.drewN_drewN _ _ _)⟩
        case measure => simp [intOf]; omega
    · obtain rfl : i = j := by omega
      have P := part_at HN0.out I1.out I2.out HL.out HG.out hi hj HA.out HB.out
      have HP := Lib.hid P
      obtain ⟨e, he0⟩ : ∃ e, e = n0 - i := ⟨_, rfl⟩
      rw [← he0] at HP
      have he2 : (n0 : Int) - (i : Int) = (e : Int) := by have := HG.out.g8; omega
      have hwe : IntKind.i64.wrap (e : Int) = (e : Int) := IntWalk.i64_in _ (by have := HN0.out; have := HMD.out; omega)
      have hex := exit_le h0 h2 HMD.out HN0.out HG.out hi hj he0
      obtain ⟨x1, x2, x3, x4, x5, x6, x7, x8, x9, x10⟩ := hex
      obtain ⟨t, ht⟩ : ∃ t, t = rot i mm e s := ⟨_, rfl⟩
      rw [← ht] at HP
      have HRT : Hid (Rm a en s t) := Lib.hid (by rw [ht]; exact (rot_rm s x2 x3).mono x1 x4)
      have HT := Lib.hid ht
      clear hr P he0 ht hlt hij hq02 hmd2 hn02 hp02 hs02
      by_cases c1 : i < mm
      · by_cases c2 : mm < e
        · have R := rotate_any b off cap N i mm e (.func (.func 53) #[] #[]) f s base (w.drewN d) (H0.out.drewN d) hbase c1 c2 (by omega) hN
          rw [← HT.out] at R
          have HRO := Lib.hid R
          clear R
          go_wp2_with (fail)
          refine HRO.out.mono ?_
          rintro e1 w1 ⟨rfl, hS1, hb1⟩
          have HS1 := Lib.hid hS1
          have HB1 := Lib.hid ((below_drewN (Below.refl base w) d).trans hb1)
          clear hS1 hb1
          by_cases c3 : a < i
          · by_cases c4 : i < md
            · have M := HIH.out a i md t _ (by omega) c3 c4 (by omega) HS1.out HP.out.i1 HP.out.i2 HP.out.l1
              have HM2 := Lib.hid M
              clear M
              go_wp2_with (fail)
              refine HM2.out.mono ?_
              rintro e2 w2 ⟨rfl, ⟨u, hr2, hi2, hS2⟩, hb2⟩
              have HS2 := Lib.hid hS2
              have HR2 := Lib.hid hr2
              have HI2 := Lib.hid hi2
              have HB2 := Lib.hid (HB1.out.trans hb2)
              clear hS2 hr2 hi2 hb2
              by_cases c5 : md < e
              · by_cases c6 : e < en
                · have M := HIH.out md e en _ _ (by omega) c5 c6 he HS2.out (HP.out.i3.congr fun k k0 k1 => HR2.out.1 k (by omega)) (HP.out.i4.congr fun k k0 k1 => HR2.out.1 k (by omega)) (lr_congr HP.out.l2 fun k k0 k1 => HR2.out.1 k (by omega))
                  have HM3 := Lib.hid M
                  clear M
                  go_wp2_with (fail)
                  refine HM3.out.mono ?_
                  rintro e3 w3 ⟨rfl, ⟨v, hr3, hi3, hS3⟩, hb3⟩
                  have HS3 := Lib.hid hS3
                  have HR3 := Lib.hid hr3
                  have HI3 := Lib.hid hi3
                  clear hS3 hr3 hi3
                  go_wp2_with (fail)
                  go_end0
                  have D := HP.out.done (by omega) (by omega) HR2.out HI2.out HR3.out HI3.out
                  exact ⟨rfl, ⟨v, HRT.out.trans D.2, D.1, HS3.out⟩, HB2.out.trans hb3⟩
                · go_wp2_with (fail)
                  go_end0
                  have D := HP.out.done (by omega) (by omega) HR2.out HI2.out (Rm.refl _ _ _) ((HP.out.right (by omega) (by omega) (by omega)).congr fun k k0 k1 => HR2.out.1 k (by omega))
                  exact ⟨rfl, ⟨_, HRT.out.trans D.2, D.1, HS2.out⟩, HB2.out⟩
              · go_wp2_with (fail)
                go_end0
                have D := HP.out.done (by omega) (by omega) HR2.out HI2.out (Rm.refl _ _ _) ((HP.out.right (by omega) (by omega) (by omega)).congr fun k k0 k1 => HR2.out.1 k (by omega))
                exact ⟨rfl, ⟨_, HRT.out.trans D.2, D.1, HS2.out⟩, HB2.out⟩
            · have HI2 := Lib.hid (HP.out.left (by omega) (by omega) (by omega))
              have HR2 := Lib.hid (Rm.refl a md t)
              have HS2 := HS1
              have HB2 := HB1
              by_cases c5 : md < e
              · by_cases c6 : e < en
                · have M := HIH.out md e en _ _ (by omega) c5 c6 he HS2.out (HP.out.i3.congr fun k k0 k1 => HR2.out.1 k (by omega)) (HP.out.i4.congr fun k k0 k1 => HR2.out.1 k (by omega)) (lr_congr HP.out.l2 fun k k0 k1 => HR2.out.1 k (by omega))
                  have HM3 := Lib.hid M
                  clear M
                  go_wp2_with (fail)
                  refine HM3.out.mono ?_
                  rintro e3 w3 ⟨rfl, ⟨v, hr3, hi3, hS3⟩, hb3⟩
                  have HS3 := Lib.hid hS3
                  have HR3 := Lib.hid hr3
                  have HI3 := Lib.hid hi3
                  clear hS3 hr3 hi3
                  go_wp2_with (fail)
                  go_end0
                  have D := HP.out.done (by omega) (by omega) HR2.out HI2.out HR3.out HI3.out
                  exact ⟨rfl, ⟨v, HRT.out.trans D.2, D.1, HS3.out⟩, HB2.out.trans hb3⟩
                · go_wp2_with (fail)
                  go_end0
                  have D := HP.out.done (by omega) (by omega) HR2.out HI2.out (Rm.refl _ _ _) ((HP.out.right (by omega) (by omega) (by omega)).congr fun k k0 k1 => HR2.out.1 k (by omega))
                  exact ⟨rfl, ⟨_, HRT.out.trans D.2, D.1, HS2.out⟩, HB2.out⟩
              · go_wp2_with (fail)
                go_end0
                have D := HP.out.done (by omega) (by omega) HR2.out HI2.out (Rm.refl _ _ _) ((HP.out.right (by omega) (by omega) (by omega)).congr fun k k0 k1 => HR2.out.1 k (by omega))
                exact ⟨rfl, ⟨_, HRT.out.trans D.2, D.1, HS2.out⟩, HB2.out⟩
          · have HI2 := Lib.hid (HP.out.left (by omega) (by omega) (by omega))
            have HR2 := Lib.hid (Rm.refl a md t)
            have HS2 := HS1
            have HB2 := HB1
            by_cases c5 : md < e
            · by_cases c6 : e < en
              · have M := HIH.out md e en _ _ (by omega) c5 c6 he HS2.out (HP.out.i3.congr fun k k0 k1 => HR2.out.1 k (by omega)) (HP.out.i4.congr fun k k0 k1 => HR2.out.1 k (by omega)) (lr_congr HP.out.l2 fun k k0 k1 => HR2.out.1 k (by omega))
                have HM3 := Lib.hid M
                clear M
                go_wp2_with (fail)
                refine HM3.out.mono ?_
                rintro e3 w3 ⟨rfl, ⟨v, hr3, hi3, hS3⟩, hb3⟩
                have HS3 := Lib.hid hS3
                have HR3 := Lib.hid hr3
                have HI3 := Lib.hid hi3
                clear hS3 hr3 hi3
                go_wp2_with (fail)
                go_end0
                have D := HP.out.done (by omega) (by omega) HR2.out HI2.out HR3.out HI3.out
                exact ⟨rfl, ⟨v, HRT.out.trans D.2, D.1, HS3.out⟩, HB2.out.trans hb3⟩
              · go_wp2_with (fail)
                go_end0
                have D := HP.out.done (by omega) (by omega) HR2.out HI2.out (Rm.refl _ _ _) ((HP.out.right (by omega) (by omega) (by omega)).congr fun k k0 k1 => HR2.out.1 k (by omega))
                exact ⟨rfl, ⟨_, HRT.out.trans D.2, D.1, HS2.out⟩, HB2.out⟩
            · go_wp2_with (fail)
              go_end0
              have D := HP.out.done (by omega) (by omega) HR2.out HI2.out (Rm.refl _ _ _) ((HP.out.right (by omega) (by omega) (by omega)).congr fun k k0 k1 => HR2.out.1 k (by omega))
              exact ⟨rfl, ⟨_, HRT.out.trans D.2, D.1, HS2.out⟩, HB2.out⟩
        · have HS1 : Hid (SRow (w.drewN d) b off N f t) := Lib.hid (by rw [HT.out, rot_none i mm e s (by omega) (by omega) (by omega)]; exact H0.out.drewN d)
          have HB1 : Hid (Below base w (w.drewN d)) := Lib.hid (below_drewN (Below.refl _ _) d)
          by_cases c3 : a < i
          · by_cases c4 : i < md
            · have M := HIH.out a i md t _ (by omega) c3 c4 (by omega) HS1.out HP.out.i1 HP.out.i2 HP.out.l1
              have HM2 := Lib.hid M
              clear M
              go_wp2_with (fail)
              refine HM2.out.mono ?_
              rintro e2 w2 ⟨rfl, ⟨u, hr2, hi2, hS2⟩, hb2⟩
              have HS2 := Lib.hid hS2
              have HR2 := Lib.hid hr2
              have HI2 := Lib.hid hi2
              have HB2 := Lib.hid (HB1.out.trans hb2)
              clear hS2 hr2 hi2 hb2
              by_cases c5 : md < e
              · by_cases c6 : e < en
                · have M := HIH.out md e en _ _ (by omega) c5 c6 he HS2.out (HP.out.i3.congr fun k k0 k1 => HR2.out.1 k (by omega)) (HP.out.i4.congr fun k k0 k1 => HR2.out.1 k (by omega)) (lr_congr HP.out.l2 fun k k0 k1 => HR2.out.1 k (by omega))
                  have HM3 := Lib.hid M
                  clear M
                  go_wp2_with (fail)
                  refine HM3.out.mono ?_
                  rintro e3 w3 ⟨rfl, ⟨v, hr3, hi3, hS3⟩, hb3⟩
                  have HS3 := Lib.hid hS3
                  have HR3 := Lib.hid hr3
                  have HI3 := Lib.hid hi3
                  clear hS3 hr3 hi3
                  go_wp2_with (fail)
                  go_end0
                  have D := HP.out.done (by omega) (by omega) HR2.out HI2.out HR3.out HI3.out
                  exact ⟨rfl, ⟨v, HRT.out.trans D.2, D.1, HS3.out⟩, HB2.out.trans hb3⟩
                · go_wp2_with (fail)
                  go_end0
                  have D := HP.out.done (by omega) (by omega) HR2.out HI2.out (Rm.refl _ _ _) ((HP.out.right (by omega) (by omega) (by omega)).congr fun k k0 k1 => HR2.out.1 k (by omega))
                  exact ⟨rfl, ⟨_, HRT.out.trans D.2, D.1, HS2.out⟩, HB2.out⟩
              · go_wp2_with (fail)
                go_end0
                have D := HP.out.done (by omega) (by omega) HR2.out HI2.out (Rm.refl _ _ _) ((HP.out.right (by omega) (by omega) (by omega)).congr fun k k0 k1 => HR2.out.1 k (by omega))
                exact ⟨rfl, ⟨_, HRT.out.trans D.2, D.1, HS2.out⟩, HB2.out⟩
            · have HI2 := Lib.hid (HP.out.left (by omega) (by omega) (by omega))
              have HR2 := Lib.hid (Rm.refl a md t)
              have HS2 := HS1
              have HB2 := HB1
              by_cases c5 : md < e
              · by_cases c6 : e < en
                · have M := HIH.out md e en _ _ (by omega) c5 c6 he HS2.out (HP.out.i3.congr fun k k0 k1 => HR2.out.1 k (by omega)) (HP.out.i4.congr fun k k0 k1 => HR2.out.1 k (by omega)) (lr_congr HP.out.l2 fun k k0 k1 => HR2.out.1 k (by omega))
                  have HM3 := Lib.hid M
                  clear M
                  go_wp2_with (fail)
                  refine HM3.out.mono ?_
                  rintro e3 w3 ⟨rfl, ⟨v, hr3, hi3, hS3⟩, hb3⟩
                  have HS3 := Lib.hid hS3
                  have HR3 := Lib.hid hr3
                  have HI3 := Lib.hid hi3
                  clear hS3 hr3 hi3
                  go_wp2_with (fail)
                  go_end0
                  have D := HP.out.done (by omega) (by omega) HR2.out HI2.out HR3.out HI3.out
                  exact ⟨rfl, ⟨v, HRT.out.trans D.2, D.1, HS3.out⟩, HB2.out.trans hb3⟩
                · go_wp2_with (fail)
                  go_end0
                  have D := HP.out.done (by omega) (by omega) HR2.out HI2.out (Rm.refl _ _ _) ((HP.out.right (by omega) (by omega) (by omega)).congr fun k k0 k1 => HR2.out.1 k (by omega))
                  exact ⟨rfl, ⟨_, HRT.out.trans D.2, D.1, HS2.out⟩, HB2.out⟩
              · go_wp2_with (fail)
                go_end0
                have D := HP.out.done (by omega) (by omega) HR2.out HI2.out (Rm.refl _ _ _) ((HP.out.right (by omega) (by omega) (by omega)).congr fun k k0 k1 => HR2.out.1 k (by omega))
                exact ⟨rfl, ⟨_, HRT.out.trans D.2, D.1, HS2.out⟩, HB2.out⟩
          · have HI2 := Lib.hid (HP.out.left (by omega) (by omega) (by omega))
            have HR2 := Lib.hid (Rm.refl a md t)
            have HS2 := HS1
            have HB2 := HB1
            by_cases c5 : md < e
            · by_cases c6 : e < en
              · have M := HIH.out md e en _ _ (by omega) c5 c6 he HS2.out (HP.out.i3.congr fun k k0 k1 => HR2.out.1 k (by omega)) (HP.out.i4.congr fun k k0 k1 => HR2.out.1 k (by omega)) (lr_congr HP.out.l2 fun k k0 k1 => HR2.out.1 k (by omega))
                have HM3 := Lib.hid M
                clear M
                go_wp2_with (fail)
                refine HM3.out.mono ?_
                rintro e3 w3 ⟨rfl, ⟨v, hr3, hi3, hS3⟩, hb3⟩
                have HS3 := Lib.hid hS3
                have HR3 := Lib.hid hr3
                have HI3 := Lib.hid hi3
                clear hS3 hr3 hi3
                go_wp2_with (fail)
                go_end0
                have D := HP.out.done (by omega) (by omega) HR2.out HI2.out HR3.out HI3.out
                exact ⟨rfl, ⟨v, HRT.out.trans D.2, D.1, HS3.out⟩, HB2.out.trans hb3⟩
              · go_wp2_with (fail)
                go_end0
                have D := HP.out.done (by omega) (by omega) HR2.out HI2.out (Rm.refl _ _ _) ((HP.out.right (by omega) (by omega) (by omega)).congr fun k k0 k1 => HR2.out.1 k (by omega))
                exact ⟨rfl, ⟨_, HRT.out.trans D.2, D.1, HS2.out⟩, HB2.out⟩
            · go_wp2_with (fail)
              go_end0
              have D := HP.out.done (by omega) (by omega) HR2.out HI2.out (Rm.refl _ _ _) ((HP.out.right (by omega) (by omega) (by omega)).congr fun k k0 k1 => HR2.out.1 k (by omega))
              exact ⟨rfl, ⟨_, HRT.out.trans D.2, D.1, HS2.out⟩, HB2.out⟩
      · have HS1 : Hid (SRow (w.drewN d) b off N f t) := Lib.hid (by rw [HT.out, rot_none i mm e s (by omega) (by omega) (by omega)]; exact H0.out.drewN d)
        have HB1 : Hid (Below base w (w.drewN d)) := Lib.hid (below_drewN (Below.refl _ _) d)
        by_cases c3 : a < i
        · by_cases c4 : i < md
          · have M := HIH.out a i md t _ (by omega) c3 c4 (by omega) HS1.out HP.out.i1 HP.out.i2 HP.out.l1
            have HM2 := Lib.hid M
            clear M
            go_wp2_with (fail)
            refine HM2.out.mono ?_
            rintro e2 w2 ⟨rfl, ⟨u, hr2, hi2, hS2⟩, hb2⟩
            have HS2 := Lib.hid hS2
            have HR2 := Lib.hid hr2
            have HI2 := Lib.hid hi2
            have HB2 := Lib.hid (HB1.out.trans hb2)
            clear hS2 hr2 hi2 hb2
            by_cases c5 : md < e
            · by_cases c6 : e < en
              · have M := HIH.out md e en _ _ (by omega) c5 c6 he HS2.out (HP.out.i3.congr fun k k0 k1 => HR2.out.1 k (by omega)) (HP.out.i4.congr fun k k0 k1 => HR2.out.1 k (by omega)) (lr_congr HP.out.l2 fun k k0 k1 => HR2.out.1 k (by omega))
                have HM3 := Lib.hid M
                clear M
                go_wp2_with (fail)
                refine HM3.out.mono ?_
                rintro e3 w3 ⟨rfl, ⟨v, hr3, hi3, hS3⟩, hb3⟩
                have HS3 := Lib.hid hS3
                have HR3 := Lib.hid hr3
                have HI3 := Lib.hid hi3
                clear hS3 hr3 hi3
                go_wp2_with (fail)
                go_end0
                have D := HP.out.done (by omega) (by omega) HR2.out HI2.out HR3.out HI3.out
                exact ⟨rfl, ⟨v, HRT.out.trans D.2, D.1, HS3.out⟩, HB2.out.trans hb3⟩
              · go_wp2_with (fail)
                go_end0
                have D := HP.out.done (by omega) (by omega) HR2.out HI2.out (Rm.refl _ _ _) ((HP.out.right (by omega) (by omega) (by omega)).congr fun k k0 k1 => HR2.out.1 k (by omega))
                exact ⟨rfl, ⟨_, HRT.out.trans D.2, D.1, HS2.out⟩, HB2.out⟩
            · go_wp2_with (fail)
              go_end0
              have D := HP.out.done (by omega) (by omega) HR2.out HI2.out (Rm.refl _ _ _) ((HP.out.right (by omega) (by omega) (by omega)).congr fun k k0 k1 => HR2.out.1 k (by omega))
              exact ⟨rfl, ⟨_, HRT.out.trans D.2, D.1, HS2.out⟩, HB2.out⟩
          · have HI2 := Lib.hid (HP.out.left (by omega) (by omega) (by omega))
            have HR2 := Lib.hid (Rm.refl a md t)
            have HS2 := HS1
            have HB2 := HB1
            by_cases c5 : md < e
            · by_cases c6 : e < en
              · have M := HIH.out md e en _ _ (by omega) c5 c6 he HS2.out (HP.out.i3.congr fun k k0 k1 => HR2.out.1 k (by omega)) (HP.out.i4.congr fun k k0 k1 => HR2.out.1 k (by omega)) (lr_congr HP.out.l2 fun k k0 k1 => HR2.out.1 k (by omega))
                have HM3 := Lib.hid M
                clear M
                go_wp2_with (fail)
                refine HM3.out.mono ?_
                rintro e3 w3 ⟨rfl, ⟨v, hr3, hi3, hS3⟩, hb3⟩
                have HS3 := Lib.hid hS3
                have HR3 := Lib.hid hr3
                have HI3 := Lib.hid hi3
                clear hS3 hr3 hi3
                go_wp2_with (fail)
                go_end0
                have D := HP.out.done (by omega) (by omega) HR2.out HI2.out HR3.out HI3.out
                exact ⟨rfl, ⟨v, HRT.out.trans D.2, D.1, HS3.out⟩, HB2.out.trans hb3⟩
              · go_wp2_with (fail)
                go_end0
                have D := HP.out.done (by omega) (by omega) HR2.out HI2.out (Rm.refl _ _ _) ((HP.out.right (by omega) (by omega) (by omega)).congr fun k k0 k1 => HR2.out.1 k (by omega))
                exact ⟨rfl, ⟨_, HRT.out.trans D.2, D.1, HS2.out⟩, HB2.out⟩
            · go_wp2_with (fail)
              go_end0
              have D := HP.out.done (by omega) (by omega) HR2.out HI2.out (Rm.refl _ _ _) ((HP.out.right (by omega) (by omega) (by omega)).congr fun k k0 k1 => HR2.out.1 k (by omega))
              exact ⟨rfl, ⟨_, HRT.out.trans D.2, D.1, HS2.out⟩, HB2.out⟩
        · have HI2 := Lib.hid (HP.out.left (by omega) (by omega) (by omega))
          have HR2 := Lib.hid (Rm.refl a md t)
          have HS2 := HS1
          have HB2 := HB1
          by_cases c5 : md < e
          · by_cases c6 : e < en
            · have M := HIH.out md e en _ _ (by omega) c5 c6 he HS2.out (HP.out.i3.congr fun k k0 k1 => HR2.out.1 k (by omega)) (HP.out.i4.congr fun k k0 k1 => HR2.out.1 k (by omega)) (lr_congr HP.out.l2 fun k k0 k1 => HR2.out.1 k (by omega))
              have HM3 := Lib.hid M
              clear M
              go_wp2_with (fail)
              refine HM3.out.mono ?_
              rintro e3 w3 ⟨rfl, ⟨v, hr3, hi3, hS3⟩, hb3⟩
              have HS3 := Lib.hid hS3
              have HR3 := Lib.hid hr3
              have HI3 := Lib.hid hi3
              clear hS3 hr3 hi3
              go_wp2_with (fail)
              go_end0
              have D := HP.out.done (by omega) (by omega) HR2.out HI2.out HR3.out HI3.out
              exact ⟨rfl, ⟨v, HRT.out.trans D.2, D.1, HS3.out⟩, HB2.out.trans hb3⟩
            · go_wp2_with (fail)
              go_end0
              have D := HP.out.done (by omega) (by omega) HR2.out HI2.out (Rm.refl _ _ _) ((HP.out.right (by omega) (by omega) (by omega)).congr fun k k0 k1 => HR2.out.1 k (by omega))
              exact ⟨rfl, ⟨_, HRT.out.trans D.2, D.1, HS2.out⟩, HB2.out⟩
          · go_wp2_with (fail)
            go_end0
            have D := HP.out.done (by omega) (by omega) HR2.out HI2.out (Rm.refl _ _ _) ((HP.out.right (by omega) (by omega) (by omega)).congr fun k k0 k1 => HR2.out.1 k (by omega))
            exact ⟨rfl, ⟨_, HRT.out.trans D.2, D.1, HS2.out⟩, HB2.out⟩

end Go.Proofs.YtjcgachdnkdamaaDoor
