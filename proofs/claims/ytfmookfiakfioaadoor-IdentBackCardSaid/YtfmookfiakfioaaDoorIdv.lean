/- The walks of the program's Order and Draw. Conditions: the slice reads as the list, of fewer than 2^44 numbers, and lies plainly; the text is below 2^63 bytes. -/
import Derived.Test.YtfmookfiakfioaaDoorIdw
namespace Go.Proofs.YtfmookfiakfioaaDoor
open Go.RowKit Go.Mem Idn Go.Proofs.YtfmookfiakfioaaDoorW.PrintWords Go.Lib Go.Shelf
open Go.Sort hiding Below
set_option linter.unusedVariables false

theorem name_any (s : ByteArray) (w : World) : Calls Tryd.prog 12 #[.string s] w fun e w' => e = .returned (.int .i64 (nameE s)) ∧ ∃ q, w' = w.drewN q := by
  obtain ⟨k, hk⟩ := (checkName s).rounds
  exact (PScore.ident_CheckName.calls k s _ w hk).mono fun e w' ⟨h1, h2⟩ => ⟨h1, h2.out⟩
theorem sum_any (s : ByteArray) (hs : s.size ≤ 9223372036854775807) (w : World) : Calls Tryd.prog 24 #[.string s] w fun e w' => e = .returned (.int .u64 (sumI s)) ∧ ∃ q, w' = w.drewN q := by
  obtain ⟨k, hk⟩ := (sum s hs).rounds
  exact (PScore.ident_Sum.calls k s _ w hk).mono fun e w' ⟨h1, h2⟩ => ⟨h1, h2.out⟩
theorem sumB_any (s : ByteArray) (hs : s.size ≤ 9223372036854775807) (w : World) : Calls Tryd.prog 24 #[.string s] w fun e w' => e = .returned (.int .u64 (sumI s)) ∧ Below w.heap.size w w' :=
  (sum_any s hs w).mono fun _ _ ⟨h1, q, h2⟩ => ⟨h1, by rw [h2]; exact below_drewN (Below.refl _ _) q⟩
theorem score_any (a z : Int) (w : World) : Calls Tryd.prog 42 #[.int .i64 a, .int .u64 z] w fun e w' => e = .returned (.int .u64 (scoreI a z)) ∧ ∃ q, w' = w.drewN q :=
  (PScore.ident_score.calls a z _ w (score a z)).mono fun e w' ⟨h1, h2⟩ => ⟨h1, h2.out⟩
set_option maxHeartbeats 400000 in
theorem ucmp_any (a b : Int) (w : World) : Calls Tryd.prog 41 #[.int .u64 a, .int .u64 b] w fun e w' => e = .returned (.int .i64 (Lib.compareInt a b)) ∧ w' = w := by
  by_cases h1 : a < b
  · go_enter Tryd.func41, Tryd.ntmps41
    go_wp2
    go_ret
    exact ⟨ret_int (by unfold Lib.compareInt; rw [if_pos h1]), rfl⟩
  · by_cases h2 : b < a
    · go_enter Tryd.func41, Tryd.ntmps41
      go_wp2
      go_ret
      exact ⟨ret_int (by unfold Lib.compareInt; rw [if_neg (by omega), if_pos (by omega)]), rfl⟩
    · go_enter Tryd.func41, Tryd.ntmps41
      go_wp2
      go_ret
      exact ⟨ret_int (by unfold Lib.compareInt; rw [if_neg (by omega), if_neg (by omega)]), rfl⟩
/-- how two routers stand that want a name of this sum -/
def cfI (z a b : Int) : Int := if Lib.compareInt (scoreI b z) (scoreI a z) ≠ 0 then Lib.compareInt (scoreI b z) (scoreI a z) else Lib.compareInt a b
theorem cfI_lt (z a b : Int) : ltOf (cfI z) a b = moreB z a b := by
  unfold ltOf cfI moreB Lib.compareInt
  generalize scoreI a z = x
  generalize scoreI b z = y
  rw [Bool.eq_iff_iff]
  simp only [Bool.or_eq_true, Bool.and_eq_true, decide_eq_true_eq]
  repeat' split
  all_goals omega
theorem cfI_swo (z : Int) : SWO (ltOf (cfI z)) := by
  have e : ltOf (cfI z) = moreB z := by funext a b; exact cfI_lt z a b
  rw [e]; exact moreB_swo z
set_option maxHeartbeats 1600000 in
theorem ocmp_any (z a b : Int) (c : Nat) (w : World) (hc : w.cell? ⟨c, 0, none⟩ = some (.int .u64 z)) :
    Calls Tryd.prog 40 #[.int .i64 a, .int .i64 b, .pointer (some ⟨c, 0, none⟩)] w fun e w' => e = .returned (.int .i64 (cfI z a b)) ∧ ∃ q, w' = w.drewN q := by
  have hq : ∀ x y : Int, Lib.compareInt x y = 0 ∨ Lib.compareInt x y ≠ 0 := fun x y => by omega
  rcases hq (scoreI b z) (scoreI a z) with h0 | h0
  · have HR : Hid (cfI z a b = Lib.compareInt a b) := Lib.hid (by unfold cfI; rw [if_neg (by rw [h0]; decide)])
    have hb : (Lib.compareInt (scoreI b z) (scoreI a z) != 0) = false := by rw [h0]; rfl
    clear h0 hq
    generalize cfI z a b = R at *
    go_enter Tryd.func40, Tryd.ntmps40
    go_wp2
    go_quiet ((first | (go_at_call 42; first | exact quiet_more' (score_any _ _ _) | exact Calls.quiet_of (score_any _ _ _) | exact score_any _ _ _) | (go_at_call 41; first | exact quiet_more (ucmp_any _ _ _) | exact Calls.quiet_of_same (ucmp_any _ _ _))))
    go_wp2_with (go_at_call 43; refine (Tryd.cmp_Compare_int _ _ _).mono ?_; rintro e w' ⟨rfl, rfl⟩)
    go_ret
    exact ⟨ret_int HR.out.symm, _, rfl⟩
  · have HR : Hid (cfI z a b = Lib.compareInt (scoreI b z) (scoreI a z)) := Lib.hid (by unfold cfI; rw [if_pos h0])
    have hb : (Lib.compareInt (scoreI b z) (scoreI a z) != 0) = true := by rw [bne_iff_ne]; exact h0
    clear h0 hq
    generalize cfI z a b = R at *
    go_enter Tryd.func40, Tryd.ntmps40
    go_wp2
    go_quiet ((first | (go_at_call 42; first | exact quiet_more' (score_any _ _ _) | exact Calls.quiet_of (score_any _ _ _) | exact score_any _ _ _) | (go_at_call 41; first | exact quiet_more (ucmp_any _ _ _) | exact Calls.quiet_of_same (ucmp_any _ _ _))))
    go_wp2
    go_ret
    exact ⟨ret_int HR.out.symm, _, rfl⟩
theorem ocmp_reads (z : Int) (c blk off size : Nat) (w : World) (hc : w.cell? ⟨c, 0, none⟩ = some (.int .u64 z)) (hne : c ≠ blk) : CmpLays1 Tryd.prog 40 #[.pointer (some ⟨c, 0, none⟩)] (Value.int .i64) (cfI z) blk off size w := by
  refine CmpReads.lays fun n os dk hs x y => ?_
  have hcl := World.block_lt_of_cell? w _ hc
  refine ocmp_any z x y c _ ?_
  unfold sortWorld
  rw [cell?_grow _ _ _ (by simpa [putRow, mapBlock, Sort.ahead] using hcl), cell?_putRow_other _ _ _ _ _ _ (.inl hne)]
  exact hc
theorem sorted_below {B blk off n : Nat} {a w : World} {d : Array Int} {os : Array Obj} (h : Below B a w) (hb : B ≤ blk) (hB : B ≤ w.heap.size) : Below B a (sortWorld (Value.int .i64) w blk off n d os) := by
  refine ⟨h.os, h.tape, h.output, ?_, fun i hi => ?_⟩
  · unfold sortWorld
    rw [Sort.size_grow]
    have := h.size
    simp [putRow, mapBlock, Sort.ahead]; omega
  · unfold sortWorld
    rw [heap_grow_old _ _ (by simp [putRow, mapBlock, Sort.ahead]; omega)]
    show ((Sort.ahead w n).heap.modify blk _)[i]? = _
    rw [Array.getElem?_modify, if_neg (by omega)]
    exact h.block i hi
/-- what Order tells: the list, as a slice that is read, and the error -/
def OrdPost (w : World) (l : List Int) (er : Int) (e : Ending) (w' : World) : Prop :=
  ∃ A c, e = .returned (.tuple #[.slice A l.length c, .int .i64 er]) ∧ l.length ≤ c ∧ (Kd.int .i64).C w' A l.length l ∧ Below w.heap.size w w' ∧ (∀ ad, A = some ad → ad.spot = none)
theorem ord_nil {w w' : World} (er : Int) (hb : Below w.heap.size w w') : OrdPost w [] er (.returned (.tuple #[.slice none 0 0, .int .i64 er])) w' := ⟨none, 0, rfl, Nat.le_refl _, Kd.C_nil _ _, hb, fun _ h => by cases h⟩
theorem ordL_nil (z : Int) : ordL z [] = [] := (ordL_perm z []).eq_nil
theorem infoI : (Tryd.prog.info? 3).map (fun i => (i.zero, i.size, i.bytes)) = some (some (.int .i64 0), 1, 8) := by kernel_rfl
/-- the sorted row, read -/
theorem sorted_reads {w : World} {g n : Nat} {l : List Int} {z : Int} {d' : Array Int} {os : Array Obj} (hH : Holds (Value.int .i64) w g 0 l.toArray) (hg : g < w.heap.size) (hl : l.length ≤ 17592186043904) (hp : PermIn 0 l.toArray.size l.toArray d') (hs : SortedIn (ltOf (cfI z)) 0 l.toArray.size d') :
    (Kd.int .i64).C (sortWorld (Value.int .i64) w g 0 n d' os) (some ⟨g, 0, none⟩) l.length (ordL z l) := by
  have hsz : d'.size = l.toArray.size := hp.1
  have hperm : d'.toList.Perm l := by
    have := hp.2.2
    rw [← hsz, Array.extract_size] at this
    rw [hsz, Array.extract_size] at this
    simpa using this
  have hsrt : Srt z d'.toList := by
    unfold Srt
    rw [List.pairwise_iff_getElem]
    intro i j hi hj hij
    have := hs i j (Nat.zero_le _) hij (by rw [← hsz]; simpa using hj)
    rw [cfI_lt] at this
    simpa [getElem!_pos, show i < d'.size by simpa using hi, show j < d'.size by simpa using hj] using this
  have he := ordL_eq hsrt hperm
  have hlen : (ordL z l).length = l.length := ordL_len z l
  refine Kd.C_of_reads (enc := Value.int .i64) (d := 0) ⟨hlen, by omega, fun _ => ⟨⟨g, 0, none⟩, rfl, fun j hj => ?_⟩⟩
  have hh := (holds_sortWorld (Value.int .i64) w g 0 n l.toArray d' os hg hH hsz j (by rw [hsz]; simpa using hj)).1
  have ha : (⟨g, 0, none⟩ : Addr).add j = ⟨g, 0 + j, none⟩ := by unfold Addr.add; by_cases h : j = 0 <;> simp [h]
  rw [ha, hh, ← he]
  congr 2
  have hj2 : j < d'.size := by rw [hsz]; simpa using hj
  rw [List.getD_eq_getElem?_getD]
  simp [getElem!_pos, hj2]
set_option maxRecDepth 100000 in
set_option maxHeartbeats 1600000 in
theorem order_any (A : Option Addr) (n c : Nat) (l : List Int) (s : ByteArray) (w : World) (hl : (Kd.int .i64).C w A n l) (hA : ∀ ad, A = some ad → ad.spot = none) (hn : n ≤ 17592186043904) (hs : s.size ≤ 9223372036854775807) :
    Calls Tryd.prog 18 #[.slice A n c, .string s] w (OrdPost w (orderL l s) (orderE l s)) := by
  have hlen := Kd.C_len hl
  rcases nameE_ways s with h0 | h0
  · have N0 := Lib.hid h0
    have HN := name_any s
    rw [h0] at HN
    have HN2 := Lib.hid HN
    clear HN
    have hw1 : listE l = 0 ∨ listE l ≠ 0 := by omega
    rcases hw1 with h1 | h1
    · have HL : Hid (orderL l s = ordL (sumI s) l) := Lib.hid (by unfold orderL; rw [if_pos ⟨h0, h1⟩])
      have HE : Hid (orderE l s = 0) := Lib.hid (by unfold orderE; rw [if_pos h0, h1])
      have HC := fun w' (hb : Below w.heap.size w w') => checked_any A n c l w' (Kd.C_below hl hb)
      rw [h1] at HC
      have HC2 := Lib.hid HC
      have HS := Lib.hid (sumB_any s hs)
      clear h0 h1 HC
      rw [HL.out, HE.out]
      obtain ⟨iI, hiI, hzI0, hzI1, hzI2⟩ := info_parts infoI
      rcases A with _ | ad
      · have hl0 : n = 0 := by
          rcases Nat.eq_zero_or_pos n with h | h
          · exact h
          · obtain ⟨_, _, e, _⟩ := kd_cells hl h
            cases e
        subst hl0
        obtain rfl : l = [] := List.eq_nil_of_length_eq_zero hlen
        rw [ordL_nil]
        clear hl hlen hA
        go_enter Tryd.func18, Tryd.ntmps18
        go_wp2_with (fail)
        refine (HN2.out _).mono ?_
        rintro e w' ⟨rfl, q1, rfl⟩
        go_wp2_with (fail)
        refine (HC2.out _ (below_drewN (Below.refl _ _) q1)).mono ?_
        rintro e w1 ⟨rfl, hb1⟩
        have HB1 := Lib.hid ((below_drewN (Below.refl w.heap.size w) q1).trans hb1)
        clear hb1
        go_wp2_with (fail)
        refine (Tryd.slices_Clone_nil _ _ _).mono ?_
        rintro e w2 ⟨rfl, rfl⟩
        go_wp2_with (fail)
        refine (HS.out _).mono ?_
        rintro e w3 ⟨rfl, hb3⟩
        have HB3 := Lib.hid hb3
        clear hb3
        go_wp2_with (fail)
        refine (Tryd.slices_SortFunc_none (α := Int) _ _ _ _).mono ?_
        rintro e w4 ⟨rfl, rfl⟩
        go_wp2
        go_ret2
        refine ord_nil _ ?_
        exact ((HB1.out.trans (HB3.out.mono HB1.out.size)).alloc (by have := HB1.out.size; have := HB3.out.size; omega) _)
      · obtain ⟨b, off, spot⟩ := ad
        obtain rfl : spot = none := hA _ rfl
        have hcells : ∀ j u, (l.map (Value.int .i64))[j]? = some u → w.cell? ⟨b, off + j, none⟩ = some u := fun j u hu => by
          rw [List.getElem?_map] at hu
          rcases Nat.lt_or_ge j l.length with hj | hj
          · obtain ⟨b2, off2, e, _, hc⟩ := kd_cells hl (by omega)
            simp only [Option.some.injEq, Addr.mk.injEq] at e
            obtain ⟨rfl, rfl, _⟩ := e
            rw [hc j (by omega), rd_at l j hj]
            rw [List.getElem?_eq_getElem hj] at hu
            simpa using hu
          · rw [List.getElem?_eq_none (by omega)] at hu; simp at hu
        have hone : ∀ u ∈ l.map (Value.int .i64), u.oneCell' = true := fun u hu => by obtain ⟨x, _, rfl⟩ := List.mem_map.1 hu; rfl
        have hbl : ∀ j u, (l.map (Value.int .i64))[j]? = some u → b < w.heap.size := fun j u hu => World.block_lt_of_cell? w _ (hcells j u hu)
        have CL := fun w' (hb : Below w.heap.size w w') => Tryd.slices_Clone iI (.int .i64 0) 1 8 hiI hzI0 hzI1 hzI2 rfl (by decide) (fun _ => by kernel_rfl) b off n c (l.map (Value.int .i64)) w' (by simp; omega) (by unfold maxLen; omega) (by omega) (fun j u hu => (hb.cell (p := ⟨b, off + j, none⟩) (hbl j u hu)).trans (hcells j u hu)) hone
        have CL2 := Lib.hid CL
        have HLn := Lib.hid hlen
        clear CL hcells hone hbl hl hA hlen hzI0 hzI1 hzI2 hiI
        go_enter Tryd.func18, Tryd.ntmps18
        go_wp2_with (fail)
        refine (HN2.out _).mono ?_
        rintro e w' ⟨rfl, q1, rfl⟩
        go_wp2_with (fail)
        refine (HC2.out _ (below_drewN (Below.refl _ _) q1)).mono ?_
        rintro e w1 ⟨rfl, hb1⟩
        have HB1 := Lib.hid ((below_drewN (Below.refl w.heap.size w) q1).trans hb1)
        clear hb1
        go_wp2_with (fail)
        refine (CL2.out _ HB1.out).mono ?_
        rintro e w2 ⟨v2, rfl, hown, hnn, hb2⟩
        obtain ⟨g, cap, rfl, hgB, hHo⟩ : ∃ g cap, v2 = .slice (some ⟨g, 0, none⟩) n cap ∧ w1.heap.size ≤ g ∧ n ≤ cap ∧ Holds (Value.int .i64) w2 g 0 l.toArray ∧ g < w2.heap.size := by
          rcases hown.2 with ⟨e, _⟩ | ⟨g, cap, cur, rfl, hg, hh, hnc, _, hsz, htk⟩
          · exact absurd e hnn
          · refine ⟨g, cap, rfl, hg, hnc, fun j hj => ?_, ?_⟩
            · have hj2 : j < l.length := by simpa using hj
              have hr := hown.cells (g := g) rfl j (.int .i64 l[j]) (by rw [List.getElem?_map, List.getElem?_eq_getElem hj2]; rfl)
              have ha : (⟨g, 0, none⟩ : Addr).add j = ⟨g, 0 + j, none⟩ := by unfold Addr.add; by_cases h : j = 0 <;> simp [h]
              rw [ha] at hr
              refine ⟨by rw [hr]; simp [getElem!_pos, hj2], ?_⟩
              simp [World.frozen?, hh]
            · rcases Nat.lt_or_ge g w2.heap.size with h | h
              · exact h
              · rw [Array.getElem?_eq_none h] at hh; cases hh
        have HH := Lib.hid hHo
        have HB2 := Lib.hid (HB1.out.trans (hb2.mono HB1.out.size))
        have hB2 := HB2.out.size
        have hB1 := HB1.out.size
        clear hown hnn hb2 hHo
        go_wp2_with (fail)
        refine (HS.out _).mono ?_
        rintro e w3 ⟨rfl, hb3⟩
        have HB3 := Lib.hid hb3
        have hB3 := hb3.size
        clear hb3
        go_wp2_with (fail)
        have hH3 : Holds (Value.int .i64) (w3.alloc (.cells #[.int .u64 (sumI s)] 38)) g 0 l.toArray := fun j hj => by
          obtain ⟨_, hh, hg⟩ := HH.out
          have h := hh j hj
          have hb := HB3.out.alloc hB3 (.cells #[.int .u64 (sumI s)] 38)
          exact ⟨(hb.cell (p := ⟨g, 0 + j, none⟩) hg).trans h.1, (hb.frozen (p := ⟨g, 0 + j, none⟩) hg).trans h.2⟩
        have hg3 : g < (w3.alloc (.cells #[.int .u64 (sumI s)] 38)).heap.size := by have := HH.out.2.2; simp; omega
        have hsz : l.toArray.size = n := by simpa using HLn.out
        have HSF := Tryd.slices_SortFunc (Value.int .i64) (fun _ => rfl) (cfI (sumI s)) (cfI_swo _) 40 #[.pointer (some ⟨w3.heap.size, 0, none⟩)] g 0 cap l.toArray _ (enters_of Tryd.func40 (by kernel_rfl) rfl) (ocmp_reads (sumI s) w3.heap.size g 0 l.toArray.size _ (by simp) (by have := HH.out.2.2; omega)) hH3 hg3 (by omega)
        rw [hsz] at HSF
        refine HSF.mono ?_
        rintro e w4 ⟨rfl, d', n', os, hp, hso, rfl⟩
        have HR := Lib.hid (sorted_reads (n := n') (os := os) hH3 hg3 (by have := HLn.out; omega) (by rw [hsz]; exact hp) (by rw [hsz]; exact hso))
        have HBL := Lib.hid (sorted_below (blk := g) (off := 0) (n := n') (d := d') (os := os) ((HB2.out.trans (HB3.out.mono hB2)).alloc (by omega) (.cells #[.int .u64 (sumI s)] 38)) (by omega) (by simp; omega))
        clear hp hso HSF hH3
        generalize sortWorld (Value.int .i64) (w3.alloc (.cells #[.int .u64 (sumI s)] 38)) g 0 n' d' os = w5 at *
        go_wp2
        go_ret2
        have hfin : (ordL (sumI s) l).length = n := by rw [ordL_len]; exact HLn.out
        refine ⟨some ⟨g, 0, none⟩, cap, by rw [hfin]; rfl, by rw [hfin]; exact HH.out.1, by rw [ordL_len]; exact HR.out, HBL.out, fun ad h => by cases h; rfl⟩
    · have HL : Hid (orderL l s = []) := Lib.hid (by unfold orderL; rw [if_neg (fun x => h1 x.2)])
      have HE : Hid (orderE l s = listE l) := Lib.hid (by unfold orderE; rw [if_pos h0])
      have HC2 := Lib.hid (fun w' (hb : Below w.heap.size w w') => checked_any A n c l w' (Kd.C_below hl hb))
      have hne : (listE l != 0) = true := by rw [bne_iff_ne]; exact h1
      rw [HL.out, HE.out]
      clear h0 h1 hl hA hlen
      generalize listE l = z at *
      go_enter Tryd.func18, Tryd.ntmps18
      go_wp2_with (fail)
      refine (HN2.out _).mono ?_
      rintro e w' ⟨rfl, q1, rfl⟩
      go_wp2_with (fail)
      refine (HC2.out _ (below_drewN (Below.refl _ _) q1)).mono ?_
      rintro e w1 ⟨rfl, hb1⟩
      have HB1 := Lib.hid ((below_drewN (Below.refl w.heap.size w) q1).trans hb1)
      clear hb1
      go_wp2
      go_ret2
      exact ord_nil _ HB1.out
  · have N0 := Lib.hid h0
    have HN := name_any s
    rw [h0] at HN
    have HN2 := Lib.hid HN
    have HL : Hid (orderL l s = []) := Lib.hid (by unfold orderL; rw [if_neg (fun x => by rw [h0] at x; exact absurd x.1 (by decide))])
    have HE : Hid (orderE l s = 21) := Lib.hid (by unfold orderE; rw [if_neg (by rw [h0]; decide), h0])
    rw [HL.out, HE.out]
    clear HN h0 hl hA hlen
    go_enter Tryd.func18, Tryd.ntmps18
    go_wp2_with (fail)
    refine (HN2.out _).mono ?_
    rintro e w' ⟨rfl, q1, rfl⟩
    go_wp2
    go_ret2
    exact ord_nil _ (below_drewN (Below.refl _ _) q1)

end Go.Proofs.YtfmookfiakfioaaDoor
