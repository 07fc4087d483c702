/- The walk of Parse, the reference's. Conditions: as Prs's. -/
import Derived.Test.YtcpbanekjncekaaDoorPrs
namespace Go.Proofs.YtcpbanekjncekaaDoor
open Go.RowKit Flt Go.Mem

theorem intV_ok (l : List UInt8) (v : Int) (h : Lib.parseIntB 64 l = .ok v) : intV l = v := by unfold intV; rw [h]
set_option maxHeartbeats 6400000 in
theorem rparse_any (s : ByteArray) (w : World) (hl : LibW w) : Calls Tryd.prog 13 #[.string s] w fun e w' => e = .returned (.tuple #[.float .f64 (parseW s), .int .i64 (parseE s)]) ∧ Below w.heap.size w w' := by
  have HL := Lib.hid hl
  clear hl
  by_cases h1 : 262144 < (s.size : Int)
  · have H1 : Hid (parseW s = 0) := Lib.hid (by unfold parseW; rw [if_pos (by omega)])
    have H2 : Hid (parseE s = 3) := Lib.hid (by unfold parseE; rw [if_pos (by omega)])
    go_enter Tryd.func13, Tryd.ntmps13
    go_wp2
    go_ret2
    exact ⟨ret_fi H1.out.symm H2.out.symm, Below.refl _ _⟩
  · have h1' : ¬ 262144 < s.size := by omega
    have HT := Lib.hid (ba_toList s)
    cases h2 : (s.toList == [105, 110, 102])
    · have h2' : ¬ s.data.toList = [105, 110, 102] := by
        intro h; rw [← HT.out] at h; rw [h] at h2; exact absurd h2 (by decide)
      have N := Lib.hid (fun h => @parse_none s h1' h2' h)
      have M := Lib.hid (fun q h => @parse_some s q h1' h2' h)
      clear h2'
      go_enter Tryd.func13, Tryd.ntmps13
      go_wp2_with (fail)
      go_loopw [4] (fun i wr => (∃ k : Int, 0 ≤ k ∧ k ≤ 4 ∧ i = .int .i64 k ∧ ∀ z : Nat, spells s.data.toList = some z → k ≤ (z : Int) % 4) ∧ Below w.heap.size w wr) (fun i _ => 4 - (intOf i).toNat)
      case atStart => exact ⟨⟨0, by omega, by omega, rfl, fun _ _ => by omega⟩, Below.refl _ _⟩
      case round =>
        obtain ⟨⟨k, hk0, hk, rfl, hz⟩, hbw⟩ := hrel
        have HZ := Lib.hid hz
        have HB := Lib.hid hbw
        clear hz hbw
        have k4 : k = 0 ∨ k = 1 ∨ k = 2 ∨ k = 3 ∨ k = 4 := by omega
        rcases k4 with rfl | rfl | rfl | rfl | rfl
        · have tl : tailL 0 = [] := by decide
          obtain ⟨n, hn⟩ : ∃ n, n = intV s.data.toList := ⟨_, rfl⟩
          have TT : Hid (∀ z, spells s.data.toList = some z → z % 4 = 0 → n = ((z / 4 : Nat) : Int) ∧ z ≤ 4398046511104 ∧ textL z = s.data.toList) := Lib.hid (fun z hz hk => by
            obtain ⟨_, t2, t3, t4, t5⟩ := tail_at (L := 0) tl rfl hz hk
            refine ⟨?_, t4, t5⟩
            have t6 : s.data.toList = Lib.decDigits (z / 4) := by
              rw [← t3, ba_extract, Nat.sub_zero, Nat.sub_zero, List.drop_zero]
              exact (List.take_of_length_le (by show _ ≤ s.data.size; rw [Array.length_toList]; exact Nat.le_refl _)).symm
            rw [hn, t6]; exact intV_dec intV_ok _ (by omega))
          have hxs : s.size ≤ 281474976710656 := by omega
          have hpi : ∀ W, LibW W → Calls Tryd.prog 25 #[.string s, .int .i64 10, .int .i64 64] W (IntE n W) := fun W hW => by rw [hn]; exact pint_any _ hxs W hW
          clear hn hxs
          have HS : Hid True := Lib.hid trivial
          · by_cases hn0 : n < 0
            · go_wp2_with (go_at_call 25; refine (hpi _ (HL.out.below (HB.out.alloc HB.out.size _))).mono ?_; rintro e w2 ⟨⟨ev, rfl⟩, hb2⟩)
              refine ⟨⟨⟨1, by omega, by omega, rfl, round_step (K := 0) rfl rfl HZ.out ?_⟩, (HB.out.alloc HB.out.size _).trans (hb2.mono (HB.out.alloc HB.out.size _).size)⟩, by simp [intOf]⟩
              intro z hz hk; have := (TT.out z hz hk).1; omega
            · by_cases hn1 : 1099511627776 < n
              · go_wp2_with (go_at_call 25; refine (hpi _ (HL.out.below (HB.out.alloc HB.out.size _))).mono ?_; rintro e w2 ⟨⟨ev, rfl⟩, hb2⟩)
                refine ⟨⟨⟨1, by omega, by omega, rfl, round_step (K := 0) rfl rfl HZ.out ?_⟩, (HB.out.alloc HB.out.size _).trans (hb2.mono (HB.out.alloc HB.out.size _).size)⟩, by simp [intOf]⟩
                intro z hz hk; have := TT.out z hz hk; omega
              · obtain ⟨q, hq⟩ : ∃ q : Nat, (q : Int) = 4 * n + 0 := ⟨(4 * n + 0).toNat, by omega⟩
                obtain ⟨D, hD⟩ : ∃ D, D = qf (q : Int) := ⟨_, rfl⟩
                have hql : q < 4503599627370496 := by omega
                have hop : ∀ t w, (binOp .quo t (.float .f64 (floatOfInt .f64 (4 * n))) (.float .f64 4616189618054758400)).run Tryd.prog w = .ok (.float .f64 D) w := fun t w => run_float_arith w .quo t .f64 _ _ _ (by rw [hD, hq, Int.add_zero]; exact div4_qf (by omega))
                have hDl : D < 18446744073709551616 := by rw [hD]; exact (qf_isQ (n := (q : Int)) (by omega)).lt
                have MQ : Hid (q ≤ 4398046511104 → textL q = s.data.toList → parseW s = D ∧ parseE s = 0) := Lib.hid (fun h1 h2 => by rw [hD]; exact M.out q (spells_of h1 h2))
                have TB : Hid (q ≤ 4398046511104 → textB D = ⟨(textL q).toArray⟩ ∧ textE D = 0) := Lib.hid (fun h => by rw [hD]; exact textB_qf q h)
                have TE : Hid (4398046511104 < q → textE D = 5) := Lib.hid (fun h => by rw [hD]; exact textE_big q h hql)
                have TQ : Hid (∀ z, spells s.data.toList = some z → z % 4 = 0 → z = q ∧ z ≤ 4398046511104 ∧ textL z = s.data.toList) := Lib.hid (fun z hz hk => by
                  obtain ⟨t2, t3, t4⟩ := TT.out z hz hk
                  exact ⟨by omega, t3, t4⟩)
                clear hD hq hql N M TT
                go_wp2_with (go_at_call 25; refine (hpi _ (HL.out.below (HB.out.alloc HB.out.size _))).mono ?_; rintro e w2 ⟨⟨ev, rfl⟩, hb2⟩)
                clear hop hpi
                refine (rtext_any _ hDl _ (HL.out.below ((HB.out.alloc HB.out.size _).trans (hb2.mono (HB.out.alloc HB.out.size _).size))).pow).mono ?_
                rintro e w4 ⟨rfl, hb4⟩
                have HB4 : Hid (Below w.heap.size w w4) := by
                  have h := (HB.out.alloc HB.out.size _).trans (hb2.mono (HB.out.alloc HB.out.size _).size)
                  exact Lib.hid (h.trans (hb4.mono h.size))
                clear hb4 hb2
                by_cases hqb : 4398046511104 < q
                · have hE := TE.out hqb
                  rw [hE]
                  generalize textB D = tb
                  go_wp2
                  refine ⟨⟨⟨1, by omega, by omega, rfl, round_step (K := 0) rfl rfl HZ.out ?_⟩, HB4.out⟩, by simp [intOf]⟩
                  intro z hz hk; have := TQ.out z hz hk; omega
                · obtain ⟨hB, hE⟩ := TB.out (by omega)
                  rw [hE]
                  by_cases hx : textL q = s.data.toList
                  · have hc : ((textB D).toList == s.toList) = true := by rw [hB, ba_toList, HT.out, ← hx]; simp
                    clear hB
                    generalize textB D = tb at *
                    go_wp2
                    go_ret2
                    obtain ⟨H1, H2⟩ := MQ.out (by omega) hx
                    exact ⟨ret_fi H1.symm H2.symm, HB4.out⟩
                  · have hc : ((textB D).toList == s.toList) = false := by rw [hB, ba_toList, HT.out]; simp [hx]
                    clear hB
                    generalize textB D = tb at *
                    go_wp2
                    refine ⟨⟨⟨1, by omega, by omega, rfl, round_step (K := 0) rfl rfl HZ.out ?_⟩, HB4.out⟩, by simp [intOf]⟩
                    intro z hz hk
                    obtain ⟨t1, t2, t3⟩ := TQ.out z hz hk
                    rw [t1] at t3; exact hx t3
        · have tl : tailL 1 = [46, 50, 53] := by decide
          by_cases hs0 : (s.size : Int) < 3
          · go_wp2
            refine ⟨⟨⟨2, by omega, by omega, rfl, round_step (K := 1) rfl rfl HZ.out ?_⟩, HB.out.alloc HB.out.size _⟩, by simp [intOf]⟩
            intro z hz hk; have := (tail_at (L := 3) tl rfl hz hk).1; omega
          obtain ⟨n, hn⟩ : ∃ n, n = intV (s.extract 0 (s.size - 3)).data.toList := ⟨_, rfl⟩
          have TT : Hid (∀ z, spells s.data.toList = some z → z % 4 = 1 → (s.extract (s.size - 3) s.size).toList = [46, 50, 53] ∧ n = ((z / 4 : Nat) : Int) ∧ z ≤ 4398046511104 ∧ textL z = s.data.toList) := Lib.hid (fun z hz hk => by
            obtain ⟨_, t2, t3, t4, t5⟩ := tail_at (L := 3) tl rfl hz hk
            refine ⟨t2, ?_, t4, t5⟩
            have t6 : (s.extract 0 (s.size - 3)).data.toList = Lib.decDigits (z / 4) := t3
            rw [hn, t6]; exact intV_dec intV_ok _ (by omega))
          have hxs : (s.extract 0 (s.size - 3)).size ≤ 281474976710656 := by rw [ByteArray.size_extract]; omega
          have hpi : ∀ W, LibW W → Calls Tryd.prog 25 #[.string (s.extract 0 (s.size - 3)), .int .i64 10, .int .i64 64] W (IntE n W) := fun W hW => by rw [hn]; exact pint_any _ hxs W hW
          clear hn hxs
          cases hsuf : ((s.extract (s.size - 3) s.size).toList == [46, 50, 53])
          · go_wp2
            refine ⟨⟨⟨2, by omega, by omega, rfl, round_step (K := 1) rfl rfl HZ.out ?_⟩, HB.out.alloc HB.out.size _⟩, by simp [intOf]⟩
            intro z hz hk; have := (TT.out z hz hk).1; rw [this] at hsuf; exact absurd hsuf (by decide)
          · by_cases hn0 : n < 0
            · go_wp2_with (go_at_call 25; refine (hpi _ (HL.out.below (HB.out.alloc HB.out.size _))).mono ?_; rintro e w2 ⟨⟨ev, rfl⟩, hb2⟩)
              refine ⟨⟨⟨2, by omega, by omega, rfl, round_step (K := 1) rfl rfl HZ.out ?_⟩, (HB.out.alloc HB.out.size _).trans (hb2.mono (HB.out.alloc HB.out.size _).size)⟩, by simp [intOf]⟩
              intro z hz hk; have := (TT.out z hz hk).2.1; omega
            · by_cases hn1 : 1099511627776 < n
              · go_wp2_with (go_at_call 25; refine (hpi _ (HL.out.below (HB.out.alloc HB.out.size _))).mono ?_; rintro e w2 ⟨⟨ev, rfl⟩, hb2⟩)
                refine ⟨⟨⟨2, by omega, by omega, rfl, round_step (K := 1) rfl rfl HZ.out ?_⟩, (HB.out.alloc HB.out.size _).trans (hb2.mono (HB.out.alloc HB.out.size _).size)⟩, by simp [intOf]⟩
                intro z hz hk; have := (TT.out z hz hk).2; omega
              · obtain ⟨q, hq⟩ : ∃ q : Nat, (q : Int) = 4 * n + 1 := ⟨(4 * n + 1).toNat, by omega⟩
                obtain ⟨D, hD⟩ : ∃ D, D = qf (q : Int) := ⟨_, rfl⟩
                have hql : q < 4503599627370496 := by omega
                have hop : ∀ t w, (binOp .quo t (.float .f64 (floatOfInt .f64 (4 * n + 1))) (.float .f64 4616189618054758400)).run Tryd.prog w = .ok (.float .f64 D) w := fun t w => run_float_arith w .quo t .f64 _ _ _ (by rw [hD, hq]; exact div4_qf (by omega))
                have hDl : D < 18446744073709551616 := by rw [hD]; exact (qf_isQ (n := (q : Int)) (by omega)).lt
                have MQ : Hid (q ≤ 4398046511104 → textL q = s.data.toList → parseW s = D ∧ parseE s = 0) := Lib.hid (fun h1 h2 => by rw [hD]; exact M.out q (spells_of h1 h2))
                have TB : Hid (q ≤ 4398046511104 → textB D = ⟨(textL q).toArray⟩ ∧ textE D = 0) := Lib.hid (fun h => by rw [hD]; exact textB_qf q h)
                have TE : Hid (4398046511104 < q → textE D = 5) := Lib.hid (fun h => by rw [hD]; exact textE_big q h hql)
                have TQ : Hid (∀ z, spells s.data.toList = some z → z % 4 = 1 → z = q ∧ z ≤ 4398046511104 ∧ textL z = s.data.toList) := Lib.hid (fun z hz hk => by
                  obtain ⟨_, t2, t3, t4⟩ := TT.out z hz hk
                  exact ⟨by omega, t3, t4⟩)
                clear hD hq hql N M TT
                go_wp2_with (go_at_call 25; refine (hpi _ (HL.out.below (HB.out.alloc HB.out.size _))).mono ?_; rintro e w2 ⟨⟨ev, rfl⟩, hb2⟩)
                clear hop hpi
                refine (rtext_any _ hDl _ (HL.out.below ((HB.out.alloc HB.out.size _).trans (hb2.mono (HB.out.alloc HB.out.size _).size))).pow).mono ?_
                rintro e w4 ⟨rfl, hb4⟩
                have HB4 : Hid (Below w.heap.size w w4) := by
                  have h := (HB.out.alloc HB.out.size _).trans (hb2.mono (HB.out.alloc HB.out.size _).size)
                  exact Lib.hid (h.trans (hb4.mono h.size))
                clear hb4 hb2
                by_cases hqb : 4398046511104 < q
                · have hE := TE.out hqb
                  rw [hE]
                  generalize textB D = tb
                  go_wp2
                  refine ⟨⟨⟨2, by omega, by omega, rfl, round_step (K := 1) rfl rfl HZ.out ?_⟩, HB4.out⟩, by simp [intOf]⟩
                  intro z hz hk; have := TQ.out z hz hk; omega
                · obtain ⟨hB, hE⟩ := TB.out (by omega)
                  rw [hE]
                  by_cases hx : textL q = s.data.toList
                  · have hc : ((textB D).toList == s.toList) = true := by rw [hB, ba_toList, HT.out, ← hx]; simp
                    clear hB
                    generalize textB D = tb at *
                    go_wp2
                    go_ret2
                    obtain ⟨H1, H2⟩ := MQ.out (by omega) hx
                    exact ⟨ret_fi H1.symm H2.symm, HB4.out⟩
                  · have hc : ((textB D).toList == s.toList) = false := by rw [hB, ba_toList, HT.out]; simp [hx]
                    clear hB
                    generalize textB D = tb at *
                    go_wp2
                    refine ⟨⟨⟨2, by omega, by omega, rfl, round_step (K := 1) rfl rfl HZ.out ?_⟩, HB4.out⟩, by simp [intOf]⟩
                    intro z hz hk
                    obtain ⟨t1, t2, t3⟩ := TQ.out z hz hk
                    rw [t1] at t3; exact hx t3
        · have tl : tailL 2 = [46, 53] := by decide
          by_cases hs0 : (s.size : Int) < 2
          · go_wp2
            refine ⟨⟨⟨3, by omega, by omega, rfl, round_step (K := 2) rfl rfl HZ.out ?_⟩, HB.out.alloc HB.out.size _⟩, by simp [intOf]⟩
            intro z hz hk; have := (tail_at (L := 2) tl rfl hz hk).1; omega
          obtain ⟨n, hn⟩ : ∃ n, n = intV (s.extract 0 (s.size - 2)).data.toList := ⟨_, rfl⟩
          have TT : Hid (∀ z, spells s.data.toList = some z → z % 4 = 2 → (s.extract (s.size - 2) s.size).toList = [46, 53] ∧ n = ((z / 4 : Nat) : Int) ∧ z ≤ 4398046511104 ∧ textL z = s.data.toList) := Lib.hid (fun z hz hk => by
            obtain ⟨_, t2, t3, t4, t5⟩ := tail_at (L := 2) tl rfl hz hk
            refine ⟨t2, ?_, t4, t5⟩
            have t6 : (s.extract 0 (s.size - 2)).data.toList = Lib.decDigits (z / 4) := t3
            rw [hn, t6]; exact intV_dec intV_ok _ (by omega))
          have hxs : (s.extract 0 (s.size - 2)).size ≤ 281474976710656 := by rw [ByteArray.size_extract]; omega
          have hpi : ∀ W, LibW W → Calls Tryd.prog 25 #[.string (s.extract 0 (s.size - 2)), .int .i64 10, .int .i64 64] W (IntE n W) := fun W hW => by rw [hn]; exact pint_any _ hxs W hW
          clear hn hxs
          cases hsuf : ((s.extract (s.size - 2) s.size).toList == [46, 53])
          · go_wp2
            refine ⟨⟨⟨3, by omega, by omega, rfl, round_step (K := 2) rfl rfl HZ.out ?_⟩, HB.out.alloc HB.out.size _⟩, by simp [intOf]⟩
            intro z hz hk; have := (TT.out z hz hk).1; rw [this] at hsuf; exact absurd hsuf (by decide)
          · by_cases hn0 : n < 0
            · go_wp2_with (go_at_call 25; refine (hpi _ (HL.out.below (HB.out.alloc HB.out.size _))).mono ?_; rintro e w2 ⟨⟨ev, rfl⟩, hb2⟩)
              refine ⟨⟨⟨3, by omega, by omega, rfl, round_step (K := 2) rfl rfl HZ.out ?_⟩, (HB.out.alloc HB.out.size _).trans (hb2.mono (HB.out.alloc HB.out.size _).size)⟩, by simp [intOf]⟩
              intro z hz hk; have := (TT.out z hz hk).2.1; omega
            · by_cases hn1 : 1099511627776 < n
              · go_wp2_with (go_at_call 25; refine (hpi _ (HL.out.below (HB.out.alloc HB.out.size _))).mono ?_; rintro e w2 ⟨⟨ev, rfl⟩, hb2⟩)
                refine ⟨⟨⟨3, by omega, by omega, rfl, round_step (K := 2) rfl rfl HZ.out ?_⟩, (HB.out.alloc HB.out.size _).trans (hb2.mono (HB.out.alloc HB.out.size _).size)⟩, by simp [intOf]⟩
                intro z hz hk; have := (TT.out z hz hk).2; omega
              · obtain ⟨q, hq⟩ : ∃ q : Nat, (q : Int) = 4 * n + 2 := ⟨(4 * n + 2).toNat, by omega⟩
                obtain ⟨D, hD⟩ : ∃ D, D = qf (q : Int) := ⟨_, rfl⟩
                have hql : q < 4503599627370496 := by omega
                have hop : ∀ t w, (binOp .quo t (.float .f64 (floatOfInt .f64 (4 * n + 2))) (.float .f64 4616189618054758400)).run Tryd.prog w = .ok (.float .f64 D) w := fun t w => run_float_arith w .quo t .f64 _ _ _ (by rw [hD, hq]; exact div4_qf (by omega))
                have hDl : D < 18446744073709551616 := by rw [hD]; exact (qf_isQ (n := (q : Int)) (by omega)).lt
                have MQ : Hid (q ≤ 4398046511104 → textL q = s.data.toList → parseW s = D ∧ parseE s = 0) := Lib.hid (fun h1 h2 => by rw [hD]; exact M.out q (spells_of h1 h2))
                have TB : Hid (q ≤ 4398046511104 → textB D = ⟨(textL q).toArray⟩ ∧ textE D = 0) := Lib.hid (fun h => by rw [hD]; exact textB_qf q h)
                have TE : Hid (4398046511104 < q → textE D = 5) := Lib.hid (fun h => by rw [hD]; exact textE_big q h hql)
                have TQ : Hid (∀ z, spells s.data.toList = some z → z % 4 = 2 → z = q ∧ z ≤ 4398046511104 ∧ textL z = s.data.toList) := Lib.hid (fun z hz hk => by
                  obtain ⟨_, t2, t3, t4⟩ := TT.out z hz hk
                  exact ⟨by omega, t3, t4⟩)
                clear hD hq hql N M TT
                go_wp2_with (go_at_call 25; refine (hpi _ (HL.out.below (HB.out.alloc HB.out.size _))).mono ?_; rintro e w2 ⟨⟨ev, rfl⟩, hb2⟩)
                clear hop hpi
                refine (rtext_any _ hDl _ (HL.out.below ((HB.out.alloc HB.out.size _).trans (hb2.mono (HB.out.alloc HB.out.size _).size))).pow).mono ?_
                rintro e w4 ⟨rfl, hb4⟩
                have HB4 : Hid (Below w.heap.size w w4) := by
                  have h := (HB.out.alloc HB.out.size _).trans (hb2.mono (HB.out.alloc HB.out.size _).size)
                  exact Lib.hid (h.trans (hb4.mono h.size))
                clear hb4 hb2
                by_cases hqb : 4398046511104 < q
                · have hE := TE.out hqb
                  rw [hE]
                  generalize textB D = tb
                  go_wp2
                  refine ⟨⟨⟨3, by omega, by omega, rfl, round_step (K := 2) rfl rfl HZ.out ?_⟩, HB4.out⟩, by simp [intOf]⟩
                  intro z hz hk; have := TQ.out z hz hk; omega
                · obtain ⟨hB, hE⟩ := TB.out (by omega)
                  rw [hE]
                  by_cases hx : textL q = s.data.toList
                  · have hc : ((textB D).toList == s.toList) = true := by rw [hB, ba_toList, HT.out, ← hx]; simp
                    clear hB
                    generalize textB D = tb at *
                    go_wp2
                    go_ret2
                    obtain ⟨H1, H2⟩ := MQ.out (by omega) hx
                    exact ⟨ret_fi H1.symm H2.symm, HB4.out⟩
                  · have hc : ((textB D).toList == s.toList) = false := by rw [hB, ba_toList, HT.out]; simp [hx]
                    clear hB
                    generalize textB D = tb at *
                    go_wp2
                    refine ⟨⟨⟨3, by omega, by omega, rfl, round_step (K := 2) rfl rfl HZ.out ?_⟩, HB4.out⟩, by simp [intOf]⟩
                    intro z hz hk
                    obtain ⟨t1, t2, t3⟩ := TQ.out z hz hk
                    rw [t1] at t3; exact hx t3
        · have tl : tailL 3 = [46, 55, 53] := by decide
          by_cases hs0 : (s.size : Int) < 3
          · go_wp2
            refine ⟨⟨⟨4, by omega, by omega, rfl, round_step (K := 3) rfl rfl HZ.out ?_⟩, HB.out.alloc HB.out.size _⟩, by simp [intOf]⟩
            intro z hz hk; have := (tail_at (L := 3) tl rfl hz hk).1; omega
          obtain ⟨n, hn⟩ : ∃ n, n = intV (s.extract 0 (s.size - 3)).data.toList := ⟨_, rfl⟩
          have TT : Hid (∀ z, spells s.data.toList = some z → z % 4 = 3 → (s.extract (s.size - 3) s.size).toList = [46, 55, 53] ∧ n = ((z / 4 : Nat) : Int) ∧ z ≤ 4398046511104 ∧ textL z = s.data.toList) := Lib.hid (fun z hz hk => by
            obtain ⟨_, t2, t3, t4, t5⟩ := tail_at (L := 3) tl rfl hz hk
            refine ⟨t2, ?_, t4, t5⟩
            have t6 : (s.extract 0 (s.size - 3)).data.toList = Lib.decDigits (z / 4) := t3
            rw [hn, t6]; exact intV_dec intV_ok _ (by omega))
          have hxs : (s.extract 0 (s.size - 3)).size ≤ 281474976710656 := by rw [ByteArray.size_extract]; omega
          have hpi : ∀ W, LibW W → Calls Tryd.prog 25 #[.string (s.extract 0 (s.size - 3)), .int .i64 10, .int .i64 64] W (IntE n W) := fun W hW => by rw [hn]; exact pint_any _ hxs W hW
          clear hn hxs
          cases hsuf : ((s.extract (s.size - 3) s.size).toList == [46, 55, 53])
          · go_wp2
            refine ⟨⟨⟨4, by omega, by omega, rfl, round_step (K := 3) rfl rfl HZ.out ?_⟩, HB.out.alloc HB.out.size _⟩, by simp [intOf]⟩
            intro z hz hk; have := (TT.out z hz hk).1; rw [this] at hsuf; exact absurd hsuf (by decide)
          · by_cases hn0 : n < 0
            · go_wp2_with (go_at_call 25; refine (hpi _ (HL.out.below (HB.out.alloc HB.out.size _))).mono ?_; rintro e w2 ⟨⟨ev, rfl⟩, hb2⟩)
              refine ⟨⟨⟨4, by omega, by omega, rfl, round_step (K := 3) rfl rfl HZ.out ?_⟩, (HB.out.alloc HB.out.size _).trans (hb2.mono (HB.out.alloc HB.out.size _).size)⟩, by simp [intOf]⟩
              intro z hz hk; have := (TT.out z hz hk).2.1; omega
            · by_cases hn1 : 1099511627776 < n
              · go_wp2_with (go_at_call 25; refine (hpi _ (HL.out.below (HB.out.alloc HB.out.size _))).mono ?_; rintro e w2 ⟨⟨ev, rfl⟩, hb2⟩)
                refine ⟨⟨⟨4, by omega, by omega, rfl, round_step (K := 3) rfl rfl HZ.out ?_⟩, (HB.out.alloc HB.out.size _).trans (hb2.mono (HB.out.alloc HB.out.size _).size)⟩, by simp [intOf]⟩
                intro z hz hk; have := (TT.out z hz hk).2; omega
              · obtain ⟨q, hq⟩ : ∃ q : Nat, (q : Int) = 4 * n + 3 := ⟨(4 * n + 3).toNat, by omega⟩
                obtain ⟨D, hD⟩ : ∃ D, D = qf (q : Int) := ⟨_, rfl⟩
                have hql : q < 4503599627370496 := by omega
                have hop : ∀ t w, (binOp .quo t (.float .f64 (floatOfInt .f64 (4 * n + 3))) (.float .f64 4616189618054758400)).run Tryd.prog w = .ok (.float .f64 D) w := fun t w => run_float_arith w .quo t .f64 _ _ _ (by rw [hD, hq]; exact div4_qf (by omega))
                have hDl : D < 18446744073709551616 := by rw [hD]; exact (qf_isQ (n := (q : Int)) (by omega)).lt
                have MQ : Hid (q ≤ 4398046511104 → textL q = s.data.toList → parseW s = D ∧ parseE s = 0) := Lib.hid (fun h1 h2 => by rw [hD]; exact M.out q (spells_of h1 h2))
                have TB : Hid (q ≤ 4398046511104 → textB D = ⟨(textL q).toArray⟩ ∧ textE D = 0) := Lib.hid (fun h => by rw [hD]; exact textB_qf q h)
                have TE : Hid (4398046511104 < q → textE D = 5) := Lib.hid (fun h => by rw [hD]; exact textE_big q h hql)
                have TQ : Hid (∀ z, spells s.data.toList = some z → z % 4 = 3 → z = q ∧ z ≤ 4398046511104 ∧ textL z = s.data.toList) := Lib.hid (fun z hz hk => by
                  obtain ⟨_, t2, t3, t4⟩ := TT.out z hz hk
                  exact ⟨by omega, t3, t4⟩)
                clear hD hq hql N M TT
                go_wp2_with (go_at_call 25; refine (hpi _ (HL.out.below (HB.out.alloc HB.out.size _))).mono ?_; rintro e w2 ⟨⟨ev, rfl⟩, hb2⟩)
                clear hop hpi
                refine (rtext_any _ hDl _ (HL.out.below ((HB.out.alloc HB.out.size _).trans (hb2.mono (HB.out.alloc HB.out.size _).size))).pow).mono ?_
                rintro e w4 ⟨rfl, hb4⟩
                have HB4 : Hid (Below w.heap.size w w4) := by
                  have h := (HB.out.alloc HB.out.size _).trans (hb2.mono (HB.out.alloc HB.out.size _).size)
                  exact Lib.hid (h.trans (hb4.mono h.size))
                clear hb4 hb2
                by_cases hqb : 4398046511104 < q
                · have hE := TE.out hqb
                  rw [hE]
                  generalize textB D = tb
                  go_wp2
                  refine ⟨⟨⟨4, by omega, by omega, rfl, round_step (K := 3) rfl rfl HZ.out ?_⟩, HB4.out⟩, by simp [intOf]⟩
                  intro z hz hk; have := TQ.out z hz hk; omega
                · obtain ⟨hB, hE⟩ := TB.out (by omega)
                  rw [hE]
                  by_cases hx : textL q = s.data.toList
                  · have hc : ((textB D).toList == s.toList) = true := by rw [hB, ba_toList, HT.out, ← hx]; simp
                    clear hB
                    generalize textB D = tb at *
                    go_wp2
                    go_ret2
                    obtain ⟨H1, H2⟩ := MQ.out (by omega) hx
                    exact ⟨ret_fi H1.symm H2.symm, HB4.out⟩
                  · have hc : ((textB D).toList == s.toList) = false := by rw [hB, ba_toList, HT.out]; simp [hx]
                    clear hB
                    generalize textB D = tb at *
                    go_wp2
                    refine ⟨⟨⟨4, by omega, by omega, rfl, round_step (K := 3) rfl rfl HZ.out ?_⟩, HB4.out⟩, by simp [intOf]⟩
                    intro z hz hk
                    obtain ⟨t1, t2, t3⟩ := TQ.out z hz hk
                    rw [t1] at t3; exact hx t3
        · have hN : spells s.data.toList = none := by
            cases hz : spells s.data.toList with
            | none => rfl
            | some z => have := HZ.out z hz; omega
          obtain ⟨H1, H2⟩ := N.out hN
          have H3 := Lib.hid H1
          have H4 := Lib.hid H2
          clear H1 H2 N M hN
          go_wp2
          go_ret2
          exact ⟨ret_fi H3.out.symm H4.out.symm, HB.out⟩
    · have h2' : s.data.toList = [105, 110, 102] := by rw [← HT.out]; exact eq_of_beq h2
      have H1 : Hid (parseW s = 9218868437227405312) := Lib.hid (by unfold parseW; rw [if_neg h1', if_pos h2'])
      have H2 : Hid (parseE s = 0) := Lib.hid (by unfold parseE; rw [if_neg h1', if_pos h2'])
      go_enter Tryd.func13, Tryd.ntmps13
      go_wp2_with (go_at_call 21; refine (inf1_any _).mono ?_; rintro e w' ⟨rfl, rfl⟩)
      go_ret2
      exact ⟨ret_fi H1.out.symm H2.out.symm, Below.refl _ _⟩

end Go.Proofs.YtcpbanekjncekaaDoor
