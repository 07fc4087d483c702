/- The walk of the law on turned lists. Conditions: as Idl's. -/
import Derived.Test.YtfmookfiakfioaaDoorIdl
import Derived.IntWalk
import Derived.OpenShut
namespace Go.Proofs.YtfmookfiakfioaaDoor
open Go.RowKit Go.Mem Idn Go.Proofs.YtfmookfiakfioaaDoorW.PrintWords Go.Lib Go.Shelf
open Go.Sort hiding Below
set_option linter.unusedVariables false

namespace Idn
theorem rot_perm (f : Nat → Int) (K B : Nat) : ((List.range K).map fun i => f ((i + B) % K)).Perm ((List.range K).map f) := by
  induction B with
  | zero =>
    have e : ((List.range K).map fun i => f ((i + 0) % K)) = (List.range K).map f := List.map_congr_left fun i hi => by rw [Nat.add_zero, Nat.mod_eq_of_lt (List.mem_range.1 hi)]
    rw [e]
  | succ B ih =>
    refine List.Perm.trans ?_ ih
    have h1 : (List.range (K + 1)).map (fun i => f ((i + B) % K)) = ((List.range K).map fun i => f ((i + B) % K)) ++ [f ((K + B) % K)] := by rw [List.range_succ, List.map_append]; rfl
    have h2 : (List.range (K + 1)).map (fun i => f ((i + B) % K)) = f ((0 + B) % K) :: (List.range K).map (fun i => f ((i + (B + 1)) % K)) := by
      rw [List.range_succ_eq_map, List.map_cons, List.map_map]
      congr 1
      refine List.map_congr_left fun i _ => ?_
      show f ((i + 1 + B) % K) = _
      rw [show i + 1 + B = i + (B + 1) by omega]
    rw [h1] at h2
    have e0 : f ((K + B) % K) = f ((0 + B) % K) := by rw [Nat.add_mod_left, Nat.zero_add]
    rw [e0] at h2
    have hp : (f ((0 + B) % K) :: (List.range K).map (fun i => f ((i + (B + 1)) % K))).Perm (f ((0 + B) % K) :: (List.range K).map fun i => f ((i + B) % K)) := by
      rw [← h2]; exact List.perm_append_singleton _ _
    exact hp.cons_inv
theorem draw_drop {l : List Int} {s : ByteArray} (h : orderE l s = 0) (i : Nat) (hi : i < (ordL (sumI s) l).length) : drawW ((ordL (sumI s) l).drop i) s = (ordL (sumI s) l)[i] ∧ drawE ((ordL (sumI s) l).drop i) s = 0 := by
  have hn : nameE s = 0 := by
    unfold orderE at h; split at h
    · rename_i h2; exact h2
    · rename_i h2; exact absurd h h2
  have hl : listE l = 0 := by unfold orderE at h; rw [if_pos hn] at h; exact h
  have hp := ordL_perm (sumI s) l
  have hs := ordL_srt (sumI s) l
  have hlr : listE (ordL (sumI s) l) = 0 := by rw [listE_perm hp]; exact hl
  generalize ordL (sumI s) l = r at *
  have hd : listE (r.drop i) = 0 := by
    obtain ⟨h1, h2⟩ := listE_zero.1 hlr
    exact listE_zero.2 ⟨fun x hx => h1 x (List.mem_of_mem_drop hx), h2.sublist (List.drop_sublist i r)⟩
  have hne : r.drop i ≠ [] := by intro e; have := congrArg List.length e; simp at this; omega
  have ho : orderE (r.drop i) s = 0 := by unfold orderE; rw [if_pos hn, hd]
  obtain ⟨e1, e2, _⟩ := drawW_of ho hne
  refine ⟨?_, e2⟩
  rw [e1]
  refine isMin_unique (drawI_min hne) ⟨?_, fun y hy => ?_⟩
  · rw [List.drop_eq_getElem_cons hi]; exact List.mem_cons_self
  · rw [List.drop_eq_getElem_cons hi] at hy
    rcases List.mem_cons.1 hy with rfl | hy
    · exact (moreB_swo _).irrefl _
    · have hs2 : Srt (sumI s) (r.drop i) := hs.sublist (List.drop_sublist i r)
      unfold Srt at hs2
      rw [List.drop_eq_getElem_cons hi] at hs2
      exact (List.pairwise_cons.1 hs2).1 y hy
theorem order_turned {f : Nat → Int} {n B : Nat} {s : ByteArray} : orderL ((List.range n).map fun i => f ((i + B) % n)) s = orderL ((List.range n).map f) s ∧ orderE ((List.range n).map fun i => f ((i + B) % n)) s = orderE ((List.range n).map f) s := by
  have hp := rot_perm f n B
  unfold orderL orderE
  rw [listE_perm hp, ordL_perm_eq hp]
  exact ⟨rfl, rfl⟩
end Idn
theorem kd_drop {w : World} {b off i : Nat} {l : List Int} (h : (Kd.int .i64).C w (some ⟨b, off, none⟩) l.length l) (hi : i < l.length) : (Kd.int .i64).C w (some ⟨b, off + i, none⟩) (l.drop i).length (l.drop i) := by
  refine Kd.C_of_reads (enc := Value.int .i64) (d := 0) ⟨rfl, by have := Kd.C_max h; simp; omega, fun _ => ⟨_, rfl, fun j hj => ?_⟩⟩
  have hj2 : i + j < l.length := by simp at hj; omega
  obtain ⟨b2, off2, e, _, hc⟩ := kd_cells h (by omega)
  simp only [Option.some.injEq, Addr.mk.injEq] at e
  obtain ⟨rfl, rfl, _⟩ := e
  have ha : (⟨b, off + i, none⟩ : Addr).add j = ⟨b, off + (i + j), none⟩ := by unfold Addr.add; by_cases h : j = 0 <;> simp [h, Nat.add_assoc]
  rw [ha, hc (i + j) hj2, rd_at l _ hj2, List.getD_eq_getElem?_getD, List.getElem?_drop, List.getElem?_eq_getElem hj2]; rfl
/-- a row of the call's own, read -/
theorem own_kd {w : World} {base : Nat} {e : TypeId} {A : Option Addr} {n c : Nat} {g : Nat → Int} (h : w.ownsRow base e 1 (.slice A n c) n ((List.range n).map fun i => .int .i64 (g i))) (hn : n ≤ 9223372036854775807) : (Kd.int .i64).C w A ((List.range n).map g).length ((List.range n).map g) ∧ n ≤ c := by
  have hr := Row.of_own h
  constructor
  · refine Kd.C_of_reads (enc := Value.int .i64) (d := 0) ⟨rfl, by simpa using hn, fun hp => ?_⟩
    have hp2 : 0 < n := by simpa using hp
    obtain ⟨b, off, rfl, _, hc⟩ := hr.2 hp2
    refine ⟨_, rfl, fun j hj => ?_⟩
    have hj2 : j < n := by simpa using hj
    have ha : (⟨b, off, none⟩ : Addr).add j = ⟨b, off + j, none⟩ := by unfold Addr.add; by_cases h : j = 0 <;> simp [h]
    rw [ha, hc j _ (range_get _ hj2), List.getD_eq_getElem?_getD, range_get g hj2]; rfl
  · rcases h.2 with ⟨hv, h0⟩ | ⟨g', cap, cur, hv, _, _, hnc, _⟩
    · omega
    · injection hv with _ _ h3; omega
def IL (f : Nat → Int) (k : Nat) : List Value := (List.range k).map fun i => .int .i64 (f i)
theorem IL_snoc (f : Nat → Int) (k : Nat) : IL f k ++ [.int .i64 (f k)] = IL f (k + 1) := range_snoc (fun i => Value.int .i64 (f i)) k
theorem oneI (x : Int) : ∀ u ∈ [Value.int .i64 x], u.oneCell' = true := by intro u hu; simp at hu; subst hu; rfl
set_option maxRecDepth 100000 in
set_option maxHeartbeats 6400000 in
theorem IdentTurns_walk (A : Option Addr) (n c : Nat) (f : Nat → Int) (s : ByteArray) (by_ : Int) (w : World) (hr : IRow .i64 w w.heap.size A n f) (wf : ∀ i, i < n → (Lit.int .i64 (f i)).wf = true) (hn : n ≤ 17592186043904) (hc : n ≤ c) (hs : s.size ≤ 140737488351232) (hby : (Lit.int .u8 by_).wf = true) (hp : Pow10 w) :
    Calls Tryd.prog 6 #[.slice A n c, .string s, .int .u8 by_] w fun e w' => e = .returned (.bool true) ∧ Below w.heap.size w w' := by
  obtain ⟨Y, rfl, hY⟩ : ∃ Y : Nat, by_ = (Y : Int) ∧ Y ≤ 255 := by
    have := bounds_u8 hby
    exact ⟨by_.toNat, by omega, by omega⟩
  have hC0 := irow_kd hr (by omega)
  have hlen : ((List.range n).map f).length = n := by simp
  have hnl : ((List.range n).map f).length ≤ 17592186043904 := by omega
  have hnc : ((List.range n).map f).length ≤ c := by omega
  have HS := Lib.hid (show s.size ≤ 9223372036854775807 by omega)
  have COP := fun (w' : World) (hb : Below w.heap.size w w') => copiedB A c _ hnl hnc w' (Kd.C_below hC0 hb)
  have RO := fun (w' : World) (hb : Below w.heap.size w w') => rorderB A c _ s HS.out hnl hnc w' (Kd.C_below hC0 hb)
  rw [hlen] at COP RO
  have COP2 := Lib.hid COP
  have RO2 := Lib.hid RO
  have HP := Lib.hid hp
  have HLEN := Lib.hid hlen
  obtain ⟨iI, hiI, hzI0, hzI1, hzI2⟩ := info_parts infoI
  clear COP RO hp hby hC0 hnl hnc wf hlen
  have hT := fun B => order_turned (f := f) (n := n) (B := B) (s := s)
  have HT := Lib.hid hT
  have HR := Lib.hid hr
  clear hT hr
  rcases orderE_ways ((List.range n).map f) s with h | h
  · have h1 := Lib.hid h
    have hOL : Hid (orderL ((List.range n).map f) s = ordL (sumI s) ((List.range n).map f)) := Lib.hid (by
      unfold orderE at h
      split at h
      · rename_i hnm; unfold orderL; rw [if_pos ⟨hnm, h⟩]
      · rename_i hnm; exact absurd h hnm)
    have hDD := Lib.hid (draw_drop h)
    have hRL : Hid ((ordL (sumI s) ((List.range n).map f)).length = n) := Lib.hid (by rw [ordL_len]; exact HLEN.out)
    clear h
    go_enter Tryd.func6, Tryd.ntmps6
    go_wp2_with (fail)
    refine (COP2.out w (Below.refl _ _)).mono ?_
    rintro e w1 ⟨A1, c1, rfl, hc1, hC1, hb1, hA1⟩
    rw [HLEN.out] at hc1 hC1
    have HB1 := Lib.hid hb1
    have hB1 := hb1.size
    have HO := Lib.hid (order_any A1 n c1 _ s w1 hC1 hA1 hn HS.out)
    clear hb1 hC1 hA1
    rw [hOL.out, h1.out] at HO
    go_wp2_with (fail)
    refine HO.out.mono ?_
    rintro e wA ⟨A2, c2, rfl, hc2, hC2, hb2, hA2⟩
    have HBA := Lib.hid (HB1.out.trans (hb2.mono hB1))
    have hBA := HBA.out.size
    have hDD2 := hDD.out
    generalize hrr : ordL (sumI s) ((List.range n).map f) = r at *
    have HRR := Lib.hid hrr
    rw [hRL.out] at hc2 hC2 ⊢
    have HC2 := Lib.hid hC2
    have HDD2 := Lib.hid hDD2
    clear hb2 hA2 hC2 hrr hDD hDD2 HO COP2 RO2 HB1 hB1
    go_wp2_with (fail)
    go_loopw [11, 12] (fun tv iv wr => ∃ j : Nat, j ≤ n ∧ iv = .int .i64 j ∧ wr.ownsRow wA.heap.size 3 1 tv j (IL (fun i => f ((i + Y) % n)) j) ∧ Below wA.heap.size wA wr) (fun _ iv _ => n - (intOf iv).toNat)
    case atStart => exact ⟨0, Nat.zero_le _, rfl, ⟨rfl, .inl ⟨rfl, rfl⟩⟩, Below.refl _ _⟩
    case round =>
      obtain ⟨j, hj, rfl, hown, hbw⟩ := hrel
      have HBW := Lib.hid (HBA.out.trans (hbw.mono hBA))
      have hws := hbw.size
      by_cases hjn : j < n
      · obtain ⟨b, off, rfl, hbl, hc0⟩ := HR.out (by omega)
        have hmod : (j + Y) % n < n := Nat.mod_lt _ (by omega)
        have hck : wr.cell? ⟨b, off + (j + Y) % n, none⟩ = some (.int .i64 (f ((j + Y) % n))) := (HBW.out.cell hbl).trans (hc0 _ hmod)
        have hi2 : ((j : Int) + (Y : Int)) % (n : Int) = (((j + Y) % n : Nat) : Int) := by rw [Int.natCast_emod, Int.natCast_add]
        have hsn := Lib.hid (IL_snoc (fun i => f ((i + Y) % n)) j)
        have hkb : (j + 1) * 8 ≤ 140737488355328 := by omega
        have HBw := Lib.hid hbw
        clear hc0 hbw
        generalize hqg : f ((j + Y) % n) = q at *
        clear hqg
        generalize (j + Y) % n = t at *
        go_wp2_with (at_builtin; refine wpList_append_one rfl _ _ 27 rfl wA.heap.size 3 iI (.int .i64 0) 1 8 Tryd.underlying27 hiI hzI0 hzI1 hzI2 rfl (by decide) (by decide) u11 j (IL (fun i => f ((i + Y) % n)) j) rfl hown [.int .i64 q] rfl (oneI _) 3 1 rfl hkb hws ?_; intro v1 w4 hown4 hbel4)
        go_roundw
        case rel => exact ⟨j + 1, by omega, by go_num, by rw [← hsn.out]; exact hown4, hbel4 _ _ HBw.out (Nat.le_refl _)⟩
        case measure => simp [intOf]; omega
      · obtain rfl : j = n := by omega
        obtain ⟨A3, c3, rfl⟩ := own_form hown
        have hk3 := own_kd hown (by omega)
        have hs3 := own_spot hown
        obtain ⟨eL, eE⟩ := HT.out Y
        have hl3 : ((List.range j).map fun i => f ((i + Y) % j)).length = j := by simp
        have HO3 := order_any A3 j c3 ((List.range j).map fun i => f ((i + Y) % j)) s wr (by have := hk3.1; rw [hl3] at this; exact this) hs3 hn HS.out
        rw [eL, eE, h1.out, hOL.out] at HO3
        have HO4 := Lib.hid HO3
        have hC2w := Lib.hid (Kd.C_below HC2.out hbw)
        clear hown hk3 hs3 eL eE hl3 HO3 hbw hws HT HR
        go_wp2_with (fail)
        refine HO4.out.mono ?_
        rintro e w5 ⟨A5, c5, rfl, hc5, hC5, hb5, _⟩
        rw [hRL.out] at hc5 hC5 ⊢
        have HB5 := Lib.hid (HBW.out.trans (hb5.mono HBW.out.size))
        have SM := sameB A2 A5 c2 c5 r (by rw [hRL.out]; exact hn) (by rw [hRL.out]; exact hc2) (by rw [hRL.out]; exact hc5) w5 (by rw [hRL.out]; exact Kd.C_below hC2w.out hb5) (by rw [hRL.out]; exact hC5)
        rw [hRL.out] at SM
        have SM2 := Lib.hid SM
        have hC25 := Lib.hid (Kd.C_below hC2w.out hb5)
        clear hb5 hC5 SM hC2w
        go_wp2_with (fail)
        refine SM2.out.mono ?_
        rintro e w6 ⟨rfl, hb6⟩
        have HB6 := Lib.hid (HB5.out.trans (hb6.mono HB5.out.size))
        have hC26 := Lib.hid (Kd.C_below hC25.out hb6)
        have hB6 := HB6.out.size
        clear hb6 hC25 SM2
        go_wp2_with (fail)
        go_loopw [15] (fun iv wr => ∃ k : Nat, k ≤ j ∧ iv = .int .i64 k ∧ Below w6.heap.size w6 wr) (fun iv _ => j - (intOf iv).toNat)
        case atStart => exact ⟨0, Nat.zero_le _, rfl, Below.refl _ _⟩
        case round =>
          obtain ⟨k, hk, rfl, hbk⟩ := hrel
          have HBK := Lib.hid (HB6.out.trans (hbk.mono hB6))
          by_cases hkj : k < j
          · have hCk := Kd.C_below hC26.out hbk
            obtain ⟨b, off, rfl, hbl, hce⟩ := kd_cells hCk (by omega)
            have hkr : k < r.length := by rw [hRL.out]; exact hkj
            have hkc : (k : Int) ≤ (c2 : Int) := by omega
            have hkne : ¬ c2 = k := by omega
            obtain ⟨d1, d2⟩ := HDD2.out k hkr
            have hCd := kd_drop (by rw [hRL.out]; exact hCk) hkr
            have hdl : (r.drop k).length = j - k := by simp [hRL.out]
            have hcell := hce k hkj
            rw [rd_at r k hkr] at hcell
            have CP := copiedB (some ⟨b, off + k, none⟩) (c2 - k) (r.drop k) (by omega) (by omega) wr hCd
            rw [hdl] at CP
            have CP2 := Lib.hid CP
            have HBk := Lib.hid hbk
            have DR := fun A' c' w' h1' h2' => draw_any A' (j - k) c' (r.drop k) s w' h1' h2' (by omega) HS.out
            rw [d1, d2] at DR
            have DR2 := Lib.hid DR
            have HDL := Lib.hid hdl
            clear hCk hce hCd CP DR d1 d2 hbk hdl
            generalize r[k] = y at *
            go_wp2_with (fail)
            refine CP2.out.mono ?_
            rintro e w7 ⟨A7, c7, rfl, hc7, hC7, hb7, hA7⟩
            rw [HDL.out] at hc7 hC7 ⊢
            have HB7 := Lib.hid (HBk.out.trans (hb7.mono HBk.out.size))
            have hcell7 := (hb7.cell (p := ⟨b, off + k, none⟩) hbl).trans hcell
            have hbl7 : b < w7.heap.size := by have := hb7.size; omega
            have HD := Lib.hid (DR2.out A7 c7 w7 hC7 hA7)
            clear hb7 hC7 hA7 hcell CP2 DR2
            go_wp2_with (fail)
            refine HD.out.mono ?_
            rintro e w8 ⟨rfl, hb8⟩
            have hcell8 := (hb8.cell (p := ⟨b, off + k, none⟩) hbl7).trans hcell7
            have HB8 := Lib.hid (HB7.out.trans (hb8.mono HB7.out.size))
            clear hb8 hcell7 HD
            go_wp2
            go_roundw
            case rel => exact ⟨k + 1, by omega, by go_num, HB8.out⟩
            case measure => simp [intOf]; omega
          · obtain rfl : k = j := by omega
            go_wp2_with (fail)
            refine (awake_any _ (HP.out.below HBK.out)).mono ?_
            rintro e w7 ⟨rfl, hb7⟩
            go_wp2
            go_ret
            exact ⟨rfl, HBK.out.trans (hb7.mono HBK.out.size)⟩
  · have h1 := Lib.hid h
    have hne : (orderE ((List.range n).map f) s != 0) = true := by rw [bne_iff_ne]; exact h
    have hOL : Hid (orderL ((List.range n).map f) s = []) := Lib.hid (drawW_no h).2.2
    clear h HR HT
    have RO3 := fun w' hb => RO2.out w' hb
    rw [hOL.out] at RO3
    have RO4 := Lib.hid RO3
    clear RO3 RO2
    go_enter Tryd.func6, Tryd.ntmps6
    go_wp2_with (fail)
    refine (COP2.out w (Below.refl _ _)).mono ?_
    rintro e w1 ⟨A1, c1, rfl, hc1, hC1, hb1, hA1⟩
    rw [HLEN.out] at hc1 hC1
    have HB1 := Lib.hid hb1
    have HO := order_any A1 n c1 _ s w1 hC1 hA1 hn HS.out
    rw [hOL.out] at HO
    have HO2 := Lib.hid HO
    clear hb1 hC1 hA1 HO
    generalize orderE ((List.range n).map f) s = z at *
    go_wp2_with (fail)
    refine HO2.out.mono ?_
    rintro e w2 ⟨A2, c2, rfl, hc2, hC2, hb2, hA2⟩
    have HB2 := Lib.hid (HB1.out.trans (hb2.mono HB1.out.size))
    clear hC2 hA2 hb2
    go_wp2_with (fail)
    refine (RO4.out _ HB2.out).mono ?_
    rintro e w3 ⟨A3, c3, rfl, hc3, hC3, hb3, hA3⟩
    have HB3 := Lib.hid (HB2.out.trans (hb3.mono HB2.out.size))
    clear hC3 hA3 hb3
    go_wp2_with (fail)
    refine (awake_any _ (HP.out.below HB3.out)).mono ?_
    rintro e w4 ⟨rfl, hb4⟩
    go_wp2
    go_ret
    exact ⟨rfl, HB3.out.trans (hb4.mono HB3.out.size)⟩

end Go.Proofs.YtfmookfiakfioaaDoor
