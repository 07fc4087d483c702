/- The walk of the reference's Of. Conditions: lists of less than 2^45 floats, words of 64 bits. -/
import Derived.Test.YtjcgachdnkdamaaDoorSow
namespace Go.Proofs.YtjcgachdnkdamaaDoor
open Go.RowKit Flt Go.Mem Go.Lib
set_option linter.unusedVariables false

attribute [local go_sem] run_store_float
set_option maxHeartbeats 6400000
set_option maxRecDepth 100000
theorem rsorted2_any (A : Option Addr) (n c : Nat) (l : List Nat) (w : World) (hl : FRow w w.heap.size A n l) (hn : n * 8 ≤ 140737488355328) (hn0 : 0 < n) :
    Calls Tryd.prog 25 #[.slice A n c] w fun e w' => ∃ g c' r, e = .returned (.slice (some ⟨g, 0, none⟩) n c') ∧ w.heap.size ≤ g ∧ SortedOf l n r ∧ FRow w' w'.heap.size (some ⟨g, 0, none⟩) n r ∧ Below w.heap.size w w' := by
  obtain ⟨iF, hiF, hzF0, hzF1, hzF2⟩ := info_parts infoF2
  obtain ⟨f, hf⟩ : ∃ f, f = fat l := ⟨_, rfl⟩
  have HF := Lib.hid hf
  clear hf
  go_enter Tryd.func25, Tryd.ntmps25
  go_wp2_with (fail)
  go_loopw [3, 4] (fun ov iv wr => ∃ (i : Nat) (t : Nat → Nat), i ≤ n ∧ iv = .int .i64 i ∧ Hid (Inc f t 0 i) ∧ Hid (Rm 0 i id t) ∧ wr.ownsRow w.heap.size 25 1 ov i (SL f t i) ∧ Below w.heap.size w wr) (fun _ iv _ => n - (intOf iv).toNat)
  case atStart => exact ⟨0, id, Nat.zero_le _, rfl, Lib.hid (fun i j _ _ h => by omega), Lib.hid (Rm.refl _ _ _), World.ownsRow_nil _ _ _ _, Below.refl _ _⟩
  case round =>
    obtain ⟨i, t, hi, rfl, HI, HR, hown, hbt⟩ := hrel
    by_cases hin : i < n
    · obtain ⟨b, off, rfl, hbl, hc⟩ := hl.2 (by omega)
      have hci := hc i hin
      have hck : wr.cell? ⟨b, off + i, none⟩ = some (.float .f64 (f i)) := by rw [HF.out]; exact (hbt.cell hbl).trans hci
      have hti : t i = i := HR.out.1 i (.inr (Nat.le_refl _))
      have hsn := SL_snoc f t i
      rw [hti] at hsn
      have HSN := Lib.hid hsn
      have HTI := Lib.hid hti
      have HB := Lib.hid hbt
      have hbs := hbt.size
      have hkb : (i + 1) * 8 ≤ 140737488355328 := by omega
      clear hc hci hl hsn hti hbt
      generalize hx : f i = x at *
      have HX := Lib.hid hx
      clear hx
      go_wp2_with (at_builtin; refine wpList_append_one rfl _ _ 24 rfl w.heap.size 25 iF (.float .f64 0) 1 8 Tryd.underlying24 hiF hzF0 hzF1 hzF2 rfl (by decide) (by decide) u3 i (SL f t i) rfl hown [.float .f64 x] rfl (oneF2 _) 25 1 rfl hkb hbs ?_; intro v1 w1 hown1 hbel1)
      rw [HSN.out] at hown1
      have hb1 := hbel1 _ _ HB.out (Nat.le_refl _)
      obtain ⟨g, c1, rfl, hg0, hg1⟩ := own_some hown1 (fun e => by rw [e] at hown1; rcases hown1.2 with ⟨_, h⟩ | ⟨_, _, _, h, _⟩; exact absurd h (Nat.succ_ne_zero _); cases h)
      have HO := Lib.hid (show ORow w1 w.heap.size g c1 (i + 1) f t from hown1)
      have HB1 := Lib.hid hb1
      clear hown hown1 hbel1 hb1 hck
      go_wp2_with (fail)
      go_loopw [5] (fun kv wr => ∃ (k : Nat) (u : Nat → Nat), k ≤ i ∧ kv = .int .i64 k ∧ Hid (Ins f t u 0 i k) ∧ ORow wr w.heap.size g c1 (i + 1) f u ∧ Below w.heap.size w wr) (fun kv _ => (intOf kv).toNat)
      case atStart => exact ⟨i, t, Nat.le_refl _, rfl, Lib.hid (Ins.start (Nat.zero_le _)), HO.out, HB1.out⟩
      case round =>
        obtain ⟨k, u, hki, rfl, HU, hO, hbt⟩ := hrel
        by_cases hk : 0 < k
        · obtain ⟨p, hp⟩ : ∃ p, p = k - 1 := ⟨_, rfl⟩
          have hp2 : (k : Int) - 1 = (p : Int) := by omega
          have hwp : IntKind.i64.wrap (p : Int) = (p : Int) := IntWalk.i64_in _ (by omega)
          have hpN : p < i + 1 := by omega
          have hkN : k < i + 1 := by omega
          have htl : u p < u k := by
            have h1 := HU.out.2.2.1
            have h2 := HU.out.2.2.2.1 p (by omega) (by omega)
            obtain ⟨j, j0, j1, e⟩ := HR.out.2 p (by omega) (by omega)
            rw [h1, h2, e, HTI.out]
            exact j1
          obtain ⟨cp, fp⟩ := hO.cell hpN
          obtain ⟨ck, fk⟩ := hO.cell hkN
          simp only [Nat.zero_add] at cp fp ck fk
          by_cases hcm : cmpI (f (u k)) (f (u p)) < 0
          · have hstep := HU.out.step hk (by rw [← hp]; exact (pre_cmp htl).1 hcm)
            rw [← hp] at hstep
            have HST := Lib.hid hstep
            have hD := fun q => hO.swap q hkN hpN (by omega)
            simp only [Nat.zero_add] at hD
            have HDx := Lib.hid hD
            have HP := Lib.hid hp
            clear hstep hD hO hp htl
            generalize f (u k) = vk at *
            generalize f (u p) = vp at *
            go_wp2_with (fail)
            go_big_quiet (first | (go_at_call 43; first | exact quiet_more (rcompare_any _ _ _) | exact Calls.quiet_of_same (rcompare_any _ _ _)) | exact quiet_more (rcompare_any _ _ _) | exact Calls.quiet_of_same (rcompare_any _ _ _))
            go_wp2_with (fail)
            go_region
            all_goals go_wp2
            go_roundw
            case rel =>
              have e1 := HP.out
              exact ⟨p, _, by omega, by go_num, HST, HDx.out _, ((below_drewN hbt _).setCell (p := ⟨g, _, none⟩) hg0 _).setCell (p := ⟨g, _, none⟩) hg0 _⟩
            case measure => have e1 := HP.out; simp [intOf]; omega
          · have hd := HU.out.done HI.out (fun _ => by rw [← hp]; exact pre_not htl hcm)
            have HD1 := Lib.hid hd.1
            have HD2 := Lib.hid (((HR.out.mono (Nat.le_refl _) (by omega)).trans hd.2 : Rm 0 (i + 1) id u))
            have HO2 := Lib.hid hO
            clear hd hO hp htl
            generalize f (u k) = vk at *
            generalize f (u p) = vp at *
            go_wp2_with (fail)
            go_big_quiet (first | (go_at_call 43; first | exact quiet_more (rcompare_any _ _ _) | exact Calls.quiet_of_same (rcompare_any _ _ _)) | exact quiet_more (rcompare_any _ _ _) | exact Calls.quiet_of_same (rcompare_any _ _ _))
            go_wp2_with (fail)
            go_roundw
            case rel => exact ⟨i + 1, u, by omega, by go_num, HD1, HD2, HO2.out.drewN _, below_drewN hbt _⟩
            case measure => simp [intOf]; omega
        · obtain rfl : k = 0 := by omega
          have hd := HU.out.done HI.out (fun h => absurd h (Nat.lt_irrefl _))
          have HD1 := Lib.hid hd.1
          have HD2 := Lib.hid (((HR.out.mono (Nat.le_refl _) (by omega)).trans hd.2 : Rm 0 (i + 1) id u))
          have HO2 := Lib.hid hO
          clear hd hO
          go_wp2_with (fail)
          go_big_quiet (first | (go_at_call 43; first | exact quiet_more (rcompare_any _ _ _) | exact Calls.quiet_of_same (rcompare_any _ _ _)) | exact quiet_more (rcompare_any _ _ _) | exact Calls.quiet_of_same (rcompare_any _ _ _))
          go_wp2_with (fail)
          go_roundw
          case rel => exact ⟨i + 1, u, by omega, by go_num, HD1, HD2, HO2.out.drewN _, below_drewN hbt _⟩
          case measure => simp [intOf]; omega
    · obtain rfl : i = n := by omega
      obtain ⟨g1, c1, rfl, hg1, _⟩ := own_some hown (fun e => by rw [e] at hown; rcases hown.2 with ⟨_, h⟩ | ⟨_, _, _, h, _⟩; omega; cases h)
      have HO := Lib.hid hown
      clear hown hl
      go_wp2_with (fail)
      go_ret
      refine ⟨_, _, (List.range i).map fun k => f (t k), rfl, hg1, ?_, ?_, hbt⟩
      · rw [HF.out] at HI ⊢
        exact SortedOf.make HI.out fun k hk => by obtain ⟨j, _, j1, e⟩ := HR.out.2 k (Nat.zero_le _) hk; rw [e]; exact j1
      · refine FRow.of_own (base := w.heap.size) (e := 25) (c := c1) ?_
        rw [List.map_map]; exact HO.out
theorem rof_any (A : Option Addr) (n c : Nat) (l : List Nat) (w : World) (hl : FRow w w.heap.size A n l) (hn : n * 8 ≤ 140737488355328) (hlt : ∀ x ∈ l, x < 18446744073709551616) :
    Calls Tryd.prog 30 #[.slice A n c] w fun e w' => ∃ (N a i : Int) (le mi mo me : Nat), e = .returned (sumV N a i le mi mo me) ∧ OfV l n N a i le mi mo me ∧ Below w.heap.size w w' := by
  obtain ⟨iF, hiF, hzF0, hzF1, hzF2⟩ := info_parts infoF2
  unfold sumV
  have HL := Lib.hid hl
  have HLT := Lib.hid hlt
  clear hl hlt
  go_enter Tryd.func30, Tryd.ntmps30
  go_wp2_with (go_at_call 46; refine (rNaN_any _).mono ?_; rintro e w' ⟨rfl, rfl⟩)
  have HST := Lib.hid (And.intro (ob_first w #[.int .i64 0, .int .i64 0, .int .i64 0, .float .f64 0, .float .f64 0, .float .f64 0, .float .f64 0] 30) (And.intro (ob_zero w (.cells #[.int .i64 0, .int .i64 0, .int .i64 0, .float .f64 9221120237041090560, .float .f64 9221120237041090560, .float .f64 9221120237041090560, .float .f64 9221120237041090560] 30)) (((Below.refl w.heap.size w).alloc (Nat.le_refl _) (.cells #[.int .i64 0, .int .i64 0, .int .i64 0, .float .f64 0, .float .f64 0, .float .f64 0, .float .f64 0] 30)).alloc (by simp) (.cells #[.int .i64 0, .int .i64 0, .int .i64 0, .float .f64 9221120237041090560, .float .f64 9221120237041090560, .float .f64 9221120237041090560, .float .f64 9221120237041090560] 30))))
  generalize hw0 : (w.alloc (.cells #[.int .i64 0, .int .i64 0, .int .i64 0, .float .f64 0, .float .f64 0, .float .f64 0, .float .f64 0] 30)).alloc (.cells #[.int .i64 0, .int .i64 0, .int .i64 0, .float .f64 9221120237041090560, .float .f64 9221120237041090560, .float .f64 9221120237041090560, .float .f64 9221120237041090560] 30) = w0 at *
  clear hw0
  go_loopw [5, 6] (fun sv kv wr => ∃ (k : Nat), k ≤ n ∧ kv = .int .i64 k ∧ wr.ownsRow (w.heap.size + 2) 25 1 sv (someL l k).length ((someL l k).map (.float .f64)) ∧ Hid (OB wr (w.heap.size + 1) 0 (nanN l k : Nat) (infN l k : Nat) 9221120237041090560 9221120237041090560 9221120237041090560 9221120237041090560) ∧ Hid (OB wr w.heap.size 0 0 0 0 0 0 0) ∧ Below w.heap.size w wr) (fun _ kv _ => n - (intOf kv).toNat)
  case atStart => exact ⟨0, Nat.zero_le _, rfl, World.ownsRow_nil _ _ _ _, Lib.hid HST.out.1, Lib.hid HST.out.2.1, HST.out.2.2⟩
  case round =>
    obtain ⟨wa, rfl⟩ : ∃ wa : World, wa = wr := ⟨_, rfl⟩
    obtain ⟨k, hk, rfl, hown, HG, HR, hbt⟩ := hrel
    have hbs0 := HG.out.lt
    have hbs : w.heap.size + 2 ≤ wa.heap.size := by omega
    have hbd := of_bd l k
    have HB := Lib.hid hbt
    by_cases hkn : k < n
    · obtain ⟨b, off, rfl, hbl, hc⟩ := HL.out.2 (by omega)
      have hck : wa.cell? ⟨b, off + k, none⟩ = some (.float .f64 (fat l k)) := (hbt.cell hbl).trans (hc k hkn)
      have hx := fat_lt HLT.out k
      have hneb : ¬ b = w.heap.size + 1 := by omega
      obtain ⟨c1, f1⟩ := HG.out.c1
      obtain ⟨c2, f2⟩ := HG.out.c2
      clear hc hbt
      cases hnan : isnan (fat l k)
      · cases hinf : isinf (fat l k)
        · have HE := Lib.hid (of_fin hnan hinf)
          generalize someL l k = S at *
          generalize nanN l k = na at *
          generalize infN l k = ni at *
          obtain ⟨mm, hmm⟩ : ∃ mm, mm = S.length := ⟨_, rfl⟩
          rw [← hmm] at hown hbd
          have HM := Lib.hid hmm
          obtain ⟨x, hxe⟩ : ∃ x, x = fat l k := ⟨_, rfl⟩
          rw [← hxe] at hnan hinf hck hx
          have HX := Lib.hid hxe
          have hkb : (mm + 1) * 8 ≤ 140737488355328 := by omega
          clear hmm hxe
          go_wp2_with (first | (at_builtin; refine wpList_append_one rfl _ _ 24 rfl (w.heap.size + 2) 25 iF (.float .f64 0) 1 8 Tryd.underlying24 hiF hzF0 hzF1 hzF2 rfl (by decide) (by decide) u5 mm (S.map (.float .f64)) rfl hown [.float .f64 x] rfl (oneF2 _) 25 1 rfl hkb hbs ?_; intro v1 w1 hown1 hbel1) | (go_at_call 28; refine (isnan_no hnan _).mono ?_; rintro e w' ⟨rfl, hww⟩; subst hww) | (go_at_call 36; refine (isinf0_any _ _ hx).mono ?_; rintro e w' ⟨rfl, hww⟩; subst hww))
          have HO := Lib.hid hown1
          have HB1 := Lib.hid (hbel1 _ _ HB.out (by omega))
          have HBB := Lib.hid (hbel1 _ _ (Below.refl (w.heap.size + 2) _) (Nat.le_refl _))
          clear hown hown1 hbel1
          go_roundw
          case rel => exact ⟨k + 1, by omega, by go_num, by rw [HE.out.1, List.length_append, List.map_append, ← HM.out, ← HX.out]; exact HO.out, Lib.hid (by rw [HE.out.2.1, HE.out.2.2]; exact HG.out.below HBB.out (by omega)), Lib.hid (HR.out.below HBB.out (by omega)), HB1.out⟩
          case measure => simp [intOf]; omega
        · have HE := Lib.hid (of_inf hnan hinf)
          generalize someL l k = S at *
          generalize nanN l k = na at *
          generalize infN l k = ni at *
          obtain ⟨mm, hmm⟩ : ∃ mm, mm = S.length := ⟨_, rfl⟩
          rw [← hmm] at hown hbd
          have HM := Lib.hid hmm
          obtain ⟨x, hxe⟩ : ∃ x, x = fat l k := ⟨_, rfl⟩
          rw [← hxe] at hnan hinf hck hx
          have HX := Lib.hid hxe
          have hkb : (mm + 1) * 8 ≤ 140737488355328 := by omega
          obtain ⟨z, hz⟩ : ∃ z, z = ni + 1 := ⟨_, rfl⟩
          have hz2 : (ni : Int) + 1 = (z : Int) := by omega
          have hwz : IntKind.i64.wrap (z : Int) = (z : Int) := IntWalk.i64_in _ (by omega)
          have HZ := Lib.hid hz
          clear hmm hxe hz
          have HG2 := Lib.hid (HG.out.s2 (z : Int))
          have HR2 := Lib.hid (HR.out.set (g2 := w.heap.size + 1) (by omega) 2 (.int .i64 z))
          have HB2 := Lib.hid (HB.out.setCell (p := ⟨w.heap.size + 1, 2, none⟩) (Nat.le_succ _) (.int .i64 z))
          have hown2 := own_set (g := w.heap.size + 1) (j := 2) (u := .int .i64 z) hown (by omega)
          have hszq : (wa.setCell ⟨w.heap.size + 1, 2, none⟩ (.int .i64 z)).heap.size = wa.heap.size := by simp [World.setCell]
          have hbs2 : w.heap.size + 2 ≤ (wa.setCell ⟨w.heap.size + 1, 2, none⟩ (.int .i64 z)).heap.size := by simpa [World.setCell] using hbs
          go_wp2_with (first | (at_builtin; refine wpList_append_one rfl _ _ 24 rfl (w.heap.size + 2) 25 iF (.float .f64 0) 1 8 Tryd.underlying24 hiF hzF0 hzF1 hzF2 rfl (by decide) (by decide) u5 mm (S.map (.float .f64)) rfl hown2 [.float .f64 x] rfl (oneF2 _) 25 1 (by rw [hszq] <;> rfl) hkb hbs2 ?_; intro v1 w1 hown1 hbel1) | (go_at_call 28; refine (isnan_no hnan _).mono ?_; rintro e w' ⟨rfl, hww⟩; subst hww) | (go_at_call 36; refine (isinf0_any _ _ hx).mono ?_; rintro e w' ⟨rfl, hww⟩; subst hww))
          clear hown2 hbs2 hszq
          have HO := Lib.hid hown1
          have HB1 := Lib.hid (hbel1 _ _ HB2.out (by omega))
          have HBB := Lib.hid (hbel1 _ _ (Below.refl (w.heap.size + 2) _) (Nat.le_refl _))
          clear hown hown1 hbel1
          go_roundw
          case rel => exact ⟨k + 1, by omega, by go_num, by rw [HE.out.1, List.length_append, List.map_append, ← HM.out, ← HX.out]; exact HO.out, Lib.hid (by rw [HE.out.2.1, HE.out.2.2, ← HZ.out]; exact HG2.out.below HBB.out (by omega)), Lib.hid (HR2.out.below HBB.out (by omega)), HB1.out⟩
          case measure => simp [intOf]; omega
      · have HE := Lib.hid (of_nan hnan)
        have HO := Lib.hid hown
        generalize someL l k = S at *
        generalize nanN l k = na at *
        generalize infN l k = ni at *
        generalize fat l k = x at *
        obtain ⟨z, hz⟩ : ∃ z, z = na + 1 := ⟨_, rfl⟩
        have hz2 : (na : Int) + 1 = (z : Int) := by omega
        have hwz : IntKind.i64.wrap (z : Int) = (z : Int) := IntWalk.i64_in _ (by omega)
        have HZ := Lib.hid hz
        clear hz hown
        have HG2 := Lib.hid (HG.out.s1 (z : Int))
        have HR2 := Lib.hid (HR.out.set (g2 := w.heap.size + 1) (by omega) 1 (.int .i64 z))
        have HB2 := Lib.hid (HB.out.setCell (p := ⟨w.heap.size + 1, 1, none⟩) (Nat.le_succ _) (.int .i64 z))
        go_wp2_with (first | (go_at_call 28; refine (isnan_yes hnan _).mono ?_; rintro e w' ⟨rfl, hww⟩; subst hww))
        go_roundw
        case rel => exact ⟨k + 1, by omega, by go_num, by rw [HE.out.1]; exact own_set HO.out (by omega), Lib.hid (by rw [HE.out.2.1, HE.out.2.2, ← HZ.out]; exact HG2.out), HR2, HB2.out⟩
        case measure => simp [intOf]; omega
    · obtain rfl : k = n := by omega
      clear hbt
      obtain ⟨A5, c5, rfl⟩ := own_form hown
      have HO := Lib.hid hown
      have HSL := Lib.hid (someL_lt HLT.out k)
      obtain ⟨S, hS⟩ : ∃ S, S = someL l k := ⟨_, rfl⟩
      obtain ⟨mm, hmm⟩ : ∃ mm, mm = S.length := ⟨_, rfl⟩
      rw [← hS, ← hmm] at HO
      rw [← hS] at HSL
      obtain ⟨c0, f0⟩ := HG.out.c0
      have hmb : mm ≤ k := by rw [hmm, hS]; exact hbd.1
      have HS := Lib.hid hS
      have HM := Lib.hid hmm
      generalize hna : nanN l k = na at *
      generalize hni : infN l k = ni at *
      have HNA := Lib.hid hna
      have HNI := Lib.hid hni
      rw [← hS, ← hmm]
      clear hown hS hmm hna hni hbd
      have HG1 := Lib.hid (HG.out.s0 (mm : Int))
      have HR1 := Lib.hid (HR.out.set (g2 := w.heap.size + 1) (by omega) 0 (.int .i64 mm))
      have HB1 := Lib.hid (HB.out.setCell (p := ⟨w.heap.size + 1, 0, none⟩) (Nat.le_succ _) (.int .i64 mm))
      have HO1 := Lib.hid (own_set (g := w.heap.size + 1) (j := 0) (u := .int .i64 mm) HO.out (by omega))
      by_cases hm0 : mm = 0
      · subst hm0
        have HV := Lib.hid (show OfV l k ((0 : Nat) : Int) (na : Nat) (ni : Nat) 9221120237041090560 9221120237041090560 9221120237041090560 9221120237041090560 from ⟨by rw [← HS.out, ← HM.out], by rw [HNA.out], by rw [HNI.out], .inl ⟨by rw [← HS.out, ← HM.out], rfl, rfl, rfl, rfl⟩⟩)
        have HFIN := Lib.hid (((((((HR1.out.s0 ((0 : Nat) : Int)).s1 (na : Nat)).s2 (ni : Nat)).s3 9221120237041090560).s4 9221120237041090560).s5 9221120237041090560).s6 9221120237041090560)
        have HBF := Lib.hid (((((((HB1.out.setCell (p := ⟨w.heap.size, 0, none⟩) (Nat.le_refl _) (.int .i64 ((0 : Nat) : Int))).setCell (p := ⟨w.heap.size, 1, none⟩) (Nat.le_refl _) (.int .i64 na)).setCell (p := ⟨w.heap.size, 2, none⟩) (Nat.le_refl _) (.int .i64 ni)).setCell (p := ⟨w.heap.size, 3, none⟩) (Nat.le_refl _) (.float .f64 9221120237041090560)).setCell (p := ⟨w.heap.size, 4, none⟩) (Nat.le_refl _) (.float .f64 9221120237041090560)).setCell (p := ⟨w.heap.size, 5, none⟩) (Nat.le_refl _) (.float .f64 9221120237041090560)).setCell (p := ⟨w.heap.size, 6, none⟩) (Nat.le_refl _) (.float .f64 9221120237041090560))
        obtain ⟨cr0, fr0⟩ := HR.out.c0
        obtain ⟨cg0, fg0⟩ := HG.out.c0
        obtain ⟨cr1, fr1⟩ := HR.out.c1
        obtain ⟨cg1, fg1⟩ := HG.out.c1
        obtain ⟨cr2, fr2⟩ := HR.out.c2
        obtain ⟨cg2, fg2⟩ := HG.out.c2
        obtain ⟨cr3, fr3⟩ := HR.out.c3
        obtain ⟨cg3, fg3⟩ := HG.out.c3
        obtain ⟨cr4, fr4⟩ := HR.out.c4
        obtain ⟨cg4, fg4⟩ := HG.out.c4
        obtain ⟨cr5, fr5⟩ := HR.out.c5
        obtain ⟨cg5, fg5⟩ := HG.out.c5
        obtain ⟨cr6, fr6⟩ := HR.out.c6
        obtain ⟨cg6, fg6⟩ := HG.out.c6
        go_wp2_with (fail)
        refine bodyPost_ret (ret_sum rfl _ _ _ rfl HFIN.out) rfl ?_
        exact ⟨_, _, _, _, _, _, _, rfl, HV.out, HBF.out⟩
      · have hmp : 0 < mm := by omega
        have heq : ((mm : Int) == 0) = false := by rw [beq_eq_false_iff_ne]; omega
        obtain ⟨a5, o5, rfl⟩ : ∃ a5 o5, A5 = some ⟨a5, o5, none⟩ := by
          obtain ⟨a5, o5, e, _⟩ := (FRow.of_own HO.out).2 hmp
          exact ⟨a5, o5, e⟩
        have SO := Lib.hid (rsorted2_any (some ⟨a5, o5, none⟩) mm c5 S _ (FRow.of_own HO1.out) (by omega) hmp)
        have QU := Lib.hid (fun w' (h : w'.ownsRow (w.heap.size + 2) 25 1 (.slice (some ⟨a5, o5, none⟩) mm c5) mm (S.map (.float .f64))) => rquant_any (some ⟨a5, o5, none⟩) mm c5 S 500 w' (FRow.of_own h) (by omega) (by omega) (by omega))
        have ME := Lib.hid (fun w' (h : w'.ownsRow (w.heap.size + 2) 25 1 (.slice (some ⟨a5, o5, none⟩) mm c5) mm (S.map (.float .f64))) => rmean_any (some ⟨a5, o5, none⟩) mm c5 _ S w' (FRow.of_own h) (by omega) HSL.out)
        go_wp2_with (fail)
        refine SO.out.mono ?_
        rintro e w1 ⟨b6, c6, r, rfl, hb6, hs, hF, hb1⟩
        have hgl := HG1.out.lt
        have hne : ¬ b6 = w.heap.size + 1 := by omega
        clear hb6
        have HG2 := Lib.hid (HG1.out.below hb1 hgl)
        have HR2 := Lib.hid (HR1.out.below hb1 HR1.out.lt)
        have HO2 := Lib.hid (own_below HO1.out hb1)
        have HB2 := Lib.hid (HB1.out.trans (hb1.mono HB1.out.size))
        have HSO := Lib.hid hs
        obtain ⟨_, _, e6, _, hc6⟩ := hF.2 hmp
        simp only [Option.some.injEq, Addr.mk.injEq, and_true] at e6
        obtain ⟨rfl, rfl⟩ := e6
        have d0 := hc6 0 hmp
        obtain ⟨p, hp⟩ : ∃ p, p = mm - 1 := ⟨_, rfl⟩
        have hp2 : (mm : Int) - 1 = (p : Int) := by omega
        have hwp : IntKind.i64.wrap (p : Int) = (p : Int) := IntWalk.i64_in _ (by omega)
        have hpm : p < mm := by omega
        have dp := hc6 p hpm
        simp only [Nat.add_zero, Nat.zero_add] at d0 dp
        have HP := Lib.hid hp
        obtain ⟨e0, g0⟩ := HG2.out.c0
        obtain ⟨e3, g3⟩ := HG2.out.c3
        obtain ⟨e5, g5⟩ := HG2.out.c5
        clear hs hF hb1 hc6 hp hgl SO c0 f0
        obtain ⟨r0, hr0⟩ : ∃ x, x = fat r 0 := ⟨_, rfl⟩
        obtain ⟨rp, hrp⟩ : ∃ x, x = fat r p := ⟨_, rfl⟩
        rw [← hr0] at d0
        rw [← hrp] at dp
        have HR0 := Lib.hid hr0
        have HRP := Lib.hid hrp
        clear hr0 hrp
        have HG3 := Lib.hid ((HG2.out.s3 r0).s5 rp)
        have HR3 := Lib.hid ((HR2.out.set (g2 := w.heap.size + 1) (by omega) 3 (.float .f64 r0)).set (g2 := w.heap.size + 1) (by omega) 5 (.float .f64 rp))
        have HO3 := Lib.hid (own_set (g := w.heap.size + 1) (j := 5) (u := .float .f64 rp) (own_set (g := w.heap.size + 1) (j := 3) (u := .float .f64 r0) HO2.out (by omega)) (by omega))
        have HB3 := Lib.hid ((HB2.out.setCell (p := ⟨w.heap.size + 1, 3, none⟩) (Nat.le_succ _) (.float .f64 r0)).setCell (p := ⟨w.heap.size + 1, 5, none⟩) (Nat.le_succ _) (.float .f64 rp))
        go_wp2_with (fail)
        refine (QU.out _ HO3.out).mono ?_
        rintro e w2 ⟨mi, er, rfl, hq, hb2⟩
        have HQ := Lib.hid hq
        have HG4 := Lib.hid (HG3.out.below hb2 HG3.out.lt)
        have HR4 := Lib.hid (HR3.out.below hb2 HR3.out.lt)
        have HO4 := Lib.hid (own_below HO3.out hb2)
        have HB4 := Lib.hid (HB3.out.trans (hb2.mono HB3.out.size))
        clear e0 g0 e3 g3 e5 g5 d0 dp hq hb2
        have HO5 := Lib.hid (own_set (g := w.heap.size + 1) (j := 4) (u := .float .f64 mi) HO4.out (by omega))
        obtain ⟨cr0, fr0⟩ := HR4.out.c0
        obtain ⟨cg0, fg0⟩ := HG4.out.c0
        obtain ⟨cr1, fr1⟩ := HR4.out.c1
        obtain ⟨cg1, fg1⟩ := HG4.out.c1
        obtain ⟨cr2, fr2⟩ := HR4.out.c2
        obtain ⟨cg2, fg2⟩ := HG4.out.c2
        obtain ⟨cr3, fr3⟩ := HR4.out.c3
        obtain ⟨cg3, fg3⟩ := HG4.out.c3
        obtain ⟨cr4, fr4⟩ := HR4.out.c4
        obtain ⟨cg4, fg4⟩ := HG4.out.c4
        obtain ⟨cr5, fr5⟩ := HR4.out.c5
        obtain ⟨cg5, fg5⟩ := HG4.out.c5
        obtain ⟨cr6, fr6⟩ := HR4.out.c6
        obtain ⟨cg6, fg6⟩ := HG4.out.c6
        obtain ⟨me, hme⟩ : ∃ x, x = meanW S mm := ⟨_, rfl⟩
        rw [← hme] at ME
        have HME := Lib.hid hme
        clear hme
        go_wp2_with (fail)
        refine (ME.out _ HO5.out).mono ?_
        rintro e w3 ⟨rfl, q3, rfl⟩
        have HV := Lib.hid (show OfV l k (mm : Nat) (na : Nat) (ni : Nat) r0 mi rp me from ⟨by rw [← HS.out, ← HM.out], by rw [HNA.out], by rw [HNI.out], .inr (by
          rw [← HS.out, ← HM.out, ← HP.out]
          exact ⟨hmp, r, er, HSO.out, HR0.out, HRP.out, HQ.out, HME.out⟩)⟩)
        have HR6 := Lib.hid (((HR4.out.set (g2 := w.heap.size + 1) (by omega) 4 (.float .f64 mi)).drewN q3).set (g2 := w.heap.size + 1) (by omega) 6 (.float .f64 me))
        have HFIN := Lib.hid (((((((HR6.out.s0 (mm : Nat)).s1 (na : Nat)).s2 (ni : Nat)).s3 r0).s4 mi).s5 rp).s6 me)
        have HB6 := Lib.hid ((below_drewN (HB4.out.setCell (p := ⟨w.heap.size + 1, 4, none⟩) (Nat.le_succ _) (.float .f64 mi)) q3).setCell (p := ⟨w.heap.size + 1, 6, none⟩) (Nat.le_succ _) (.float .f64 me))
        have HBF := Lib.hid (((((((HB6.out.setCell (p := ⟨w.heap.size, 0, none⟩) (Nat.le_refl _) (.int .i64 mm)).setCell (p := ⟨w.heap.size, 1, none⟩) (Nat.le_refl _) (.int .i64 na)).setCell (p := ⟨w.heap.size, 2, none⟩) (Nat.le_refl _) (.int .i64 ni)).setCell (p := ⟨w.heap.size, 3, none⟩) (Nat.le_refl _) (.float .f64 r0)).setCell (p := ⟨w.heap.size, 4, none⟩) (Nat.le_refl _) (.float .f64 mi)).setCell (p := ⟨w.heap.size, 5, none⟩) (Nat.le_refl _) (.float .f64 rp)).setCell (p := ⟨w.heap.size, 6, none⟩) (Nat.le_refl _) (.float .f64 me))
        go_wp2_with (fail)
        refine bodyPost_ret (ret_sum rfl _ _ _ rfl HFIN.out) rfl ?_
        exact ⟨_, _, _, _, _, _, _, rfl, HV.out, HBF.out⟩

end Go.Proofs.YtjcgachdnkdamaaDoor
