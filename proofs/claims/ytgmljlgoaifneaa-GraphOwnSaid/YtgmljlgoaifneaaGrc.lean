/- The walks of the reference's Place and Check. Conditions: as each theorem's hypotheses say. -/
import Derived.Test.YtgmljlgoaifneaaGck
namespace Go.Proofs.Ytgmljlgoaifneaa
open Go.RowKit Flt Go.Mem Go.Lib
set_option linter.unusedVariables false

attribute [local go_sem] run_store_float
set_option maxHeartbeats 1600000
set_option maxRecDepth 100000
theorem rcheckid_ok {x : Int} (h : idOk x = true) (w : World) : Calls Try.prog 30 #[.int .i64 x] w fun e w' => e = .returned (.int .i64 0) ∧ w' = w := by
  obtain ⟨h0, h1⟩ := idOk_iff.1 h
  have h2 : ¬ x < 1 := by omega
  have h3 : ¬ 2147483647 < x := by omega
  go_enter Try.func30, Try.ntmps30
  go_wp2
  go_ret
  exact ⟨rfl, rfl⟩
theorem rcheckid_bad {x : Int} (h : idOk x = false) (w : World) : Calls Try.prog 30 #[.int .i64 x] w fun e w' => e = .returned (.int .i64 20) ∧ w' = w := by
  have h' : ¬ (1 ≤ x ∧ x ≤ 2147483647) := fun g => by rw [idOk_iff.2 g] at h; cases h
  by_cases h2 : x < 1
  · go_enter Try.func30, Try.ntmps30
    go_wp2
    go_ret
    exact ⟨rfl, rfl⟩
  · have h3 : 2147483647 < x := by omega
    go_enter Try.func30, Try.ntmps30
    go_wp2
    go_ret
    exact ⟨rfl, rfl⟩
/-- where a router stands -/
def PlcR (ns : List Nd) (t p : Int) : Prop := (p = -1 ∧ hasN ns t = false) ∨ (hasN ns t = true ∧ ∃ i : Nat, p = (i : Int) ∧ i < ns.length ∧ (ndA ns i).id = t ∧ ∀ k, k < i → (ndA ns k).id ≠ t)
theorem place_any (A A2 : Option Addr) (n c m c2 : Nat) (ns : List Nd) (t : Int) (w : World) (hg : GN w w.heap.size A n ns) (hn : n ≤ 1152921504606846976) :
    Calls Try.prog 31 #[.agg #[.slice A n c, .slice A2 m c2], .int .i64 t] w fun e w' => ∃ p, e = .returned (.int .i64 p) ∧ PlcR ns t p ∧ Below w.heap.size w w' := by
  have HN := Lib.hid hg
  clear hg
  go_enter Try.func31, Try.ntmps31
  go_wp2_with (fail)
  have HX := Lib.hid (show (w.alloc (.cells #[.slice A n c, .slice A2 m c2] 25)).cell? ⟨w.heap.size, 0, none⟩ = some (.slice A n c) ∧ (w.alloc (.cells #[.slice A n c, .slice A2 m c2] 25)).cell? ⟨w.heap.size, 1, none⟩ = some (.slice A2 m c2) ∧ Below w.heap.size w (w.alloc (.cells #[.slice A n c, .slice A2 m c2] 25)) ∧ w.heap.size < (w.alloc (.cells #[.slice A n c, .slice A2 m c2] 25)).heap.size from ⟨by simp [go_sem], by simp [go_sem], (Below.refl _ _).alloc (Nat.le_refl _) _, by simp⟩)
  generalize hW1 : w.alloc (.cells #[.slice A n c, .slice A2 m c2] 25) = W1 at *
  clear hW1
  obtain ⟨e0, e1⟩ := And.intro HX.out.1 HX.out.2.1
  go_loop [5] (fun iv => ∃ i : Nat, i ≤ n ∧ iv = .int .i64 i ∧ Hid (∀ k, k < i → (ndA ns k).id ≠ t)) (fun iv => n - (intOf iv).toNat)
  case atStart => exact ⟨0, Nat.zero_le _, rfl, Lib.hid (fun k hk => absurd hk (Nat.not_lt_zero _))⟩
  case round =>
    obtain ⟨i, hi, rfl, HT⟩ := hrel
    by_cases hin : i < n
    · obtain ⟨b, off, rfl, hbl, hc⟩ := HN.out.at (by omega)
      have d0 := (HX.out.2.2.1.cell (p := ⟨b, off + i * 3, none⟩) hbl).trans (hc i hin).1
      obtain ⟨x, hx⟩ : ∃ x, x = (ndA ns i).id := ⟨_, rfl⟩
      rw [← hx] at d0
      have HXX := Lib.hid hx
      clear hx hc
      by_cases hxt : x = t
      · subst hxt
        go_wp2_with (fail)
        go_ret
        exact ⟨_, rfl, .inr ⟨hasN_iff.2 ⟨i, by rw [HN.out.1]; exact hin, HXX.out.symm⟩, i, rfl, by rw [HN.out.1]; exact hin, HXX.out.symm, HT.out⟩, HX.out.2.2.1⟩
      · have hxb : (x == t) = false := by rw [beq_eq_false_iff_ne]; exact hxt
        go_wp2_with (fail)
        go_round
        case rel => exact ⟨i + 1, by omega, by go_num, Lib.hid (fun k hk => by
          by_cases e : k = i
          · subst e; rw [← HXX.out]; exact hxt
          · exact HT.out k (by omega))⟩
        case measure => simp [intOf]; omega
    · obtain rfl : i = n := by omega
      have hno : hasN ns t = false := by
        cases h : hasN ns t
        · rfl
        · obtain ⟨k, hk, e⟩ := hasN_iff.1 h
          exact absurd e (HT.out k (by rw [← HN.out.1]; exact hk))
      have HNO := Lib.hid hno
      clear hno
      go_wp2_with (fail)
      go_ret
      exact ⟨_, rfl, .inl ⟨rfl, HNO.out⟩, HX.out.2.2.1⟩
theorem place_no {A A2 : Option Addr} {n c m c2 : Nat} {ns : List Nd} {t : Int} {w : World} (hg : GN w w.heap.size A n ns) (hn : n ≤ 1152921504606846976) (h : hasN ns t = false) :
    Calls Try.prog 31 #[.agg #[.slice A n c, .slice A2 m c2], .int .i64 t] w fun e w' => e = .returned (.int .i64 (-1)) ∧ Below w.heap.size w w' :=
  (place_any A A2 n c m c2 ns t w hg hn).mono fun e w' hh => by
    obtain ⟨p, he, h1, hb⟩ := hh
    rcases h1 with ⟨rfl, _⟩ | ⟨h2, _⟩
    · exact ⟨he, hb⟩
    · rw [h] at h2; cases h2
theorem place_yes {A A2 : Option Addr} {n c m c2 : Nat} {ns : List Nd} {t : Int} {w : World} (hg : GN w w.heap.size A n ns) (hn : n ≤ 1152921504606846976) (h : hasN ns t = true) :
    Calls Try.prog 31 #[.agg #[.slice A n c, .slice A2 m c2], .int .i64 t] w fun e w' => ∃ i : Nat, e = .returned (.int .i64 i) ∧ i < n ∧ (ndA ns i).id = t ∧ Below w.heap.size w w' :=
  (place_any A A2 n c m c2 ns t w hg hn).mono fun e w' hh => by
    obtain ⟨p, he, h1, hb⟩ := hh
    rcases h1 with ⟨_, h2⟩ | ⟨_, i, rfl, hi, e2, _⟩
    · rw [h] at h2; cases h2
    · exact ⟨i, he, by rw [← hg.1]; exact hi, e2, hb⟩
theorem rcheck_any (A A2 : Option Addr) (n c m c2 : Nat) (ns : List Nd) (ls : List Lk) (w : World) (hg : GN w w.heap.size A n ns) (hl : GL w w.heap.size A2 m ls) (hw : ∀ i, i < m → (lkA ls i).w < 18446744073709551616) (hn : n ≤ 1152921504606846976) (hm : m ≤ 1152921504606846976) :
    Calls Try.prog 12 #[.agg #[.slice A n c, .slice A2 m c2]] w fun e w' => e = .returned (.int .i64 (chkG ns ls)) ∧ Below w.heap.size w w' := by
  have HN := Lib.hid hg
  have HL := Lib.hid hl
  have HW := Lib.hid hw
  obtain ⟨r, hr⟩ : ∃ r, r = chkG ns ls := ⟨_, rfl⟩
  rw [← hr]
  have HRR := Lib.hid hr
  clear hr hg hl hw
  by_cases h0 : 256 < n
  · go_enter Try.func12, Try.ntmps12
    go_wp2_with (fail)
    go_ret
    exact ⟨ret_int (by rw [HRR.out, chkG_full (.inl (by rw [HN.out.1]; exact h0))]), (Below.refl _ _).alloc (Nat.le_refl _) _⟩
  by_cases h1 : 4096 < m
  · go_enter Try.func12, Try.ntmps12
    go_wp2_with (fail)
    go_ret
    exact ⟨ret_int (by rw [HRR.out, chkG_full (.inr (by rw [HL.out.1]; exact h1))]), (Below.refl _ _).alloc (Nat.le_refl _) _⟩
  go_enter Try.func12, Try.ntmps12
  go_wp2_with (fail)
  have HX := Lib.hid (show (w.alloc (.cells #[.slice A n c, .slice A2 m c2] 25)).cell? ⟨w.heap.size, 0, none⟩ = some (.slice A n c) ∧ (w.alloc (.cells #[.slice A n c, .slice A2 m c2] 25)).cell? ⟨w.heap.size, 1, none⟩ = some (.slice A2 m c2) ∧ Below w.heap.size w (w.alloc (.cells #[.slice A n c, .slice A2 m c2] 25)) ∧ w.heap.size < (w.alloc (.cells #[.slice A n c, .slice A2 m c2] 25)).heap.size from ⟨by simp [go_sem], by simp [go_sem], (Below.refl _ _).alloc (Nat.le_refl _) _, by simp⟩)
  generalize hW1 : w.alloc (.cells #[.slice A n c, .slice A2 m c2] 25) = W1 at *
  clear hW1
  go_loopw [3] (fun iv wr => ∃ i : Nat, i ≤ n ∧ iv = .int .i64 i ∧ Hid (nodTo ns i = false) ∧ Below W1.heap.size W1 wr) (fun iv _ => n - (intOf iv).toNat)
  case atStart => exact ⟨0, Nat.zero_le _, rfl, Lib.hid rfl, Below.refl _ _⟩
  case round =>
    obtain ⟨i, hi, rfl, HT, hbt⟩ := hrel
    obtain ⟨wa, rfl⟩ : ∃ wa : World, wa = wr := ⟨_, rfl⟩
    have e0 := keep_cellG HX.out.1 hbt
    have e1 := keep_cellG HX.out.2.1 hbt
    have HB := Lib.hid (HX.out.2.2.1.trans (hbt.mono HX.out.2.2.1.size))
    have HB1 := Lib.hid hbt
    clear hbt
    by_cases hin : i < n
    · obtain ⟨b, off, rfl, hbl, hc⟩ := HN.out.at (by omega)
      have d0 := (HB.out.cell (p := ⟨b, off + i * 3, none⟩) hbl).trans (hc i hin).1
      obtain ⟨x, hx⟩ : ∃ x, x = (ndA ns i).id := ⟨_, rfl⟩
      rw [← hx] at d0
      have HXX := Lib.hid hx
      clear hx
      cases hid : idOk x
      · have HBD := Lib.hid (nodBad_id (ns := ns) (i := i) (by rw [← HXX.out]; exact hid))
        clear hc
        go_wp2_with (fail)
        go_big_quiet (first | (go_at_call 30; first | exact quiet_more (rcheckid_ok hid _) | exact Calls.quiet_of_same (rcheckid_ok hid _) | exact quiet_more (rcheckid_bad hid _) | exact Calls.quiet_of_same (rcheckid_bad hid _)) | exact quiet_more (rcheckid_ok hid _) | exact Calls.quiet_of_same (rcheckid_ok hid _) | exact quiet_more (rcheckid_bad hid _) | exact Calls.quiet_of_same (rcheckid_bad hid _))
        go_wp2_with (fail)
        go_ret
        exact ⟨ret_int (by rw [HRR.out, chkG_node (by rw [HN.out.1]; omega) (by rw [HL.out.1]; omega) (nodTo_bad (by rw [HN.out.1]; exact hin) HBD.out)]), below_drewN HB.out _⟩
      · by_cases hi1 : 0 < i
        · obtain ⟨p, hp⟩ : ∃ p, p = i - 1 := ⟨_, rfl⟩
          have hp2 : (i : Int) - 1 = (p : Int) := by omega
          have hwp : IntKind.i64.wrap (p : Int) = (p : Int) := IntWalk.i64_in _ (by omega)
          have hpn : p < n := by omega
          have dp := (HB.out.cell (p := ⟨b, off + p * 3, none⟩) hbl).trans (hc p hpn).1
          have hbp := nodBad_prev (ns := ns) (i := i) (by rw [← HXX.out]; exact hid) hi1
          rw [← HXX.out, ← hp] at hbp
          obtain ⟨y, hy⟩ : ∃ y, y = (ndA ns p).id := ⟨_, rfl⟩
          rw [← hy] at dp hbp
          have HP := Lib.hid hp
          have HBP := Lib.hid hbp
          clear hc hp hbp hy
          by_cases hxy : x ≤ y
          · have HBD := Lib.hid (HBP.out.trans (decide_eq_true hxy))
            go_wp2_with (fail)
            go_big_quiet (first | (go_at_call 30; first | exact quiet_more (rcheckid_ok hid _) | exact Calls.quiet_of_same (rcheckid_ok hid _) | exact quiet_more (rcheckid_bad hid _) | exact Calls.quiet_of_same (rcheckid_bad hid _)) | exact quiet_more (rcheckid_ok hid _) | exact Calls.quiet_of_same (rcheckid_ok hid _) | exact quiet_more (rcheckid_bad hid _) | exact Calls.quiet_of_same (rcheckid_bad hid _))
            go_wp2_with (fail)
            go_ret
            exact ⟨ret_int (by rw [HRR.out, chkG_node (by rw [HN.out.1]; omega) (by rw [HL.out.1]; omega) (nodTo_bad (by rw [HN.out.1]; exact hin) HBD.out)]), below_drewN HB.out _⟩
          · have HBD := Lib.hid (HBP.out.trans (decide_eq_false hxy))
            go_wp2_with (fail)
            go_big_quiet (first | (go_at_call 30; first | exact quiet_more (rcheckid_ok hid _) | exact Calls.quiet_of_same (rcheckid_ok hid _) | exact quiet_more (rcheckid_bad hid _) | exact Calls.quiet_of_same (rcheckid_bad hid _)) | exact quiet_more (rcheckid_ok hid _) | exact Calls.quiet_of_same (rcheckid_ok hid _) | exact quiet_more (rcheckid_bad hid _) | exact Calls.quiet_of_same (rcheckid_bad hid _))
            go_wp2_with (fail)
            go_roundw
            case rel => exact ⟨i + 1, by omega, by go_num, Lib.hid (nodTo_next HT.out HBD.out), below_drewN HB1.out _⟩
            case measure => simp [intOf]; omega
        · have HBD := Lib.hid (show nodBad ns i = false by
            have e : i = 0 := by omega
            have g := HXX.out
            rw [e] at g ⊢
            exact nodBad_zero (by rw [← g]; exact hid))
          clear hc
          go_wp2_with (fail)
          go_big_quiet (first | (go_at_call 30; first | exact quiet_more (rcheckid_ok hid _) | exact Calls.quiet_of_same (rcheckid_ok hid _) | exact quiet_more (rcheckid_bad hid _) | exact Calls.quiet_of_same (rcheckid_bad hid _)) | exact quiet_more (rcheckid_ok hid _) | exact Calls.quiet_of_same (rcheckid_ok hid _) | exact quiet_more (rcheckid_bad hid _) | exact Calls.quiet_of_same (rcheckid_bad hid _))
          go_wp2_with (fail)
          go_roundw
          case rel => exact ⟨i + 1, by omega, by go_num, Lib.hid (nodTo_next HT.out HBD.out), below_drewN HB1.out _⟩
          case measure => simp [intOf]; omega
    · obtain rfl : i = n := by omega
      have PNO := Lib.hid (fun t (h : hasN ns t = false) w' (hb : Below w.heap.size w w') => place_no (A := A) (A2 := A2) (c := c) (m := m) (c2 := c2) ((HN.out.below hb).more hb.size) hn h)
      have PYES := Lib.hid (fun t (h : hasN ns t = true) w' (hb : Below w.heap.size w w') => place_yes (A := A) (A2 := A2) (c := c) (m := m) (c2 := c2) ((HN.out.below hb).more hb.size) hn h)
      go_wp2_with (fail)
      have HWA := Lib.hid (Below.refl wa.heap.size wa)
      go_loopw [4] (fun jv wr => ∃ j : Nat, j ≤ m ∧ jv = .int .i64 j ∧ Hid (lnkTo ns ls j = 0) ∧ Below wa.heap.size wa wr) (fun jv _ => m - (intOf jv).toNat)
      case atStart => exact ⟨0, Nat.zero_le _, rfl, Lib.hid rfl, HWA.out⟩
      case round =>
        obtain ⟨j, hj, rfl, HLT, hbt⟩ := hrel
        obtain ⟨wb, rfl⟩ : ∃ wb : World, wb = wr := ⟨_, rfl⟩
        have g0 := keep_cellG e0 hbt
        have g1 := keep_cellG e1 hbt
        have HBb := Lib.hid (HB.out.trans (hbt.mono HB.out.size))
        have HBa := Lib.hid hbt
        clear hbt e0 e1
        by_cases hjm : j < m
        · obtain ⟨b2, off2, rfl, hbl2, hc⟩ := HL.out.at (by omega)
          obtain ⟨k0, k1, k2, k3⟩ := hc j hjm
          have d0 := (HBb.out.cell (p := ⟨b2, off2 + j * 4, none⟩) hbl2).trans k0
          have d1 := (HBb.out.cell (p := ⟨b2, off2 + (j * 4 + 1), none⟩) hbl2).trans k1
          have d2 := (HBb.out.cell (p := ⟨b2, off2 + (j * 4 + 2), none⟩) hbl2).trans k2
          have d3 := (HBb.out.cell (p := ⟨b2, off2 + (j * 4 + 3), none⟩) hbl2).trans k3
          rw [← Nat.add_assoc] at d1 d2 d3
          have hwl := HW.out j hjm
          obtain ⟨la, hla⟩ : ∃ x, x = (lkA ls j).a := ⟨_, rfl⟩
          obtain ⟨lb, hlb⟩ : ∃ x, x = (lkA ls j).b := ⟨_, rfl⟩
          obtain ⟨lw, hlw⟩ : ∃ x, x = (lkA ls j).w := ⟨_, rfl⟩
          obtain ⟨lu, hlu⟩ : ∃ x, x = (lkA ls j).up := ⟨_, rfl⟩
          rw [← hla] at d0
          rw [← hlb] at d1
          rw [← hlw] at d2 hwl
          rw [← hlu] at d3
          have HLA := Lib.hid hla
          have HLB := Lib.hid hlb
          have HLW := Lib.hid hlw
          clear hla hlb hlw hlu k0 k1 k2 k3
          obtain ⟨o, ho⟩ : ∃ o, o = Obj.cells #[.int .i64 la, .int .i64 lb, .float .f64 lw, .bool lu] 54 := ⟨_, rfl⟩
          have HBV := Lib.hid (HBb.out.alloc HBb.out.size o)
          have HBVa := Lib.hid (HBa.out.alloc HBa.out.size o)
          have p0 := alloc_keep g0 o
          have p1 := alloc_keep g1 o
          have q0 : (wb.alloc o).cell? ⟨wb.heap.size, 0, none⟩ = some (.int .i64 la) := by rw [ho]; simp [go_sem]
          have q1 : (wb.alloc o).cell? ⟨wb.heap.size, 1, none⟩ = some (.int .i64 lb) := by rw [ho]; simp [go_sem]
          have q2 : (wb.alloc o).cell? ⟨wb.heap.size, 2, none⟩ = some (.float .f64 lw) := by rw [ho]; simp [go_sem]
          have q3 : (wb.alloc o).cell? ⟨wb.heap.size, 3, none⟩ = some (.bool lu) := by rw [ho]; simp [go_sem]
          rw [ho] at p0 p1 q0 q1 q2 q3 HBV HBVa
          clear ho
          by_cases hab : lb ≤ la
          · have HBD := Lib.hid (lnkBad_ab (ns := ns) (ls := ls) (i := j) (by rw [← HLA.out, ← HLB.out]; exact hab))
            clear hc
            go_wp2_with (fail)
            go_ret
            exact ⟨ret_int (by rw [HRR.out, chkG_link (by rw [HN.out.1]; omega) (by rw [HL.out.1]; omega) (by rw [HN.out.1]; exact HT.out), lnkTo_bad (by rw [HL.out.1]; exact hjm) HLT.out HBD.out]), HBV.out⟩
          · cases hpa : hasN ns la
            · have HBD := Lib.hid (lnkBad_a (ns := ns) (ls := ls) (i := j) (by rw [← HLA.out]; exact hpa))
              clear hc
              go_wp2_with (fail)
              refine (PNO.out la hpa _ HBV.out).mono ?_
              rintro e w2 ⟨rfl, hb2⟩
              have HB2 := Lib.hid (HBV.out.trans (hb2.mono HBV.out.size))
              clear hb2 hpa
              go_wp2_with (fail)
              go_ret
              exact ⟨ret_int (by rw [HRR.out, chkG_link (by rw [HN.out.1]; omega) (by rw [HL.out.1]; omega) (by rw [HN.out.1]; exact HT.out), lnkTo_bad (by rw [HL.out.1]; exact hjm) HLT.out HBD.out]), HB2.out⟩
            · go_wp2_with (fail)
              refine (PYES.out la hpa _ HBV.out).mono ?_
              rintro e w2 ⟨ia, rfl, hia, _, hb2⟩
              have hia2 : ¬ (ia : Int) < 0 := by omega
              have r0 := keep_cellG p0 hb2
              have r1 := keep_cellG p1 hb2
              have s0 := keep_cellG q0 hb2
              have s1 := keep_cellG q1 hb2
              have s2 := keep_cellG q2 hb2
              have HB2 := Lib.hid (HBV.out.trans (hb2.mono HBV.out.size))
              have HB2a := Lib.hid (HBVa.out.trans (hb2.mono HBVa.out.size))
              clear p0 p1 q0 q1 q2 q3 d0 d1 d2 d3 hb2 g0 g1
              cases hpb : hasN ns lb
              · have HBD := Lib.hid (lnkBad_b (ns := ns) (ls := ls) (i := j) (by rw [← HLB.out]; exact hpb))
                clear hc
                go_wp2_with (fail)
                refine (PNO.out lb hpb _ HB2.out).mono ?_
                rintro e w3 ⟨rfl, hb3⟩
                have HB3 := Lib.hid (HB2.out.trans (hb3.mono HB2.out.size))
                clear hb3 hpb hpa
                go_wp2_with (fail)
                go_ret
                exact ⟨ret_int (by rw [HRR.out, chkG_link (by rw [HN.out.1]; omega) (by rw [HL.out.1]; omega) (by rw [HN.out.1]; exact HT.out), lnkTo_bad (by rw [HL.out.1]; exact hjm) HLT.out HBD.out]), HB3.out⟩
              · go_wp2_with (fail)
                refine (PYES.out lb hpb _ HB2.out).mono ?_
                rintro e w3 ⟨ib, rfl, hib, _, hb3⟩
                have hib2 : ¬ (ib : Int) < 0 := by omega
                have t0 := keep_cellG r0 hb3
                have t1 := keep_cellG r1 hb3
                have v0 := keep_cellG s0 hb3
                have v1 := keep_cellG s1 hb3
                have v2 := keep_cellG s2 hb3
                have HB3 := Lib.hid (HB2.out.trans (hb3.mono HB2.out.size))
                have HB3a := Lib.hid (HB2a.out.trans (hb3.mono HB2a.out.size))
                clear r0 r1 s0 s1 s2 hb3
                by_cases hj0 : 0 < j
                · obtain ⟨p, hp⟩ : ∃ p, p = j - 1 := ⟨_, rfl⟩
                  have hp2 : (j : Int) - 1 = (p : Int) := by omega
                  have hwp : IntKind.i64.wrap (p : Int) = (p : Int) := IntWalk.i64_in _ (by omega)
                  have hpm : p < m := by omega
                  obtain ⟨k0, k1, k2, k3⟩ := hc p hpm
                  have d0 := (HB3.out.cell (p := ⟨b2, off2 + p * 4, none⟩) hbl2).trans k0
                  have d1 := (HB3.out.cell (p := ⟨b2, off2 + (p * 4 + 1), none⟩) hbl2).trans k1
                  rw [← Nat.add_assoc] at d1
                  have hbp := lnkBad_prev (ns := ns) (ls := ls) (i := j) (by rw [← HLA.out]; exact hpa) (by rw [← HLB.out]; exact hpb) (by rw [← HLA.out, ← HLB.out]; omega) hj0
                  unfold lkLt at hbp
                  rw [← hp, ← HLA.out, ← HLB.out] at hbp
                  have HP := Lib.hid hp
                  clear k0 k1 k2 k3 hc hp hpa hpb
                  generalize (lkA ls p).a = pa at *
                  generalize (lkA ls p).b = pb at *
                  have HBP := Lib.hid hbp
                  clear hbp
                  by_cases h5 : la < pa
                  · have HBD := Lib.hid (show lnkBad ns ls j = true by
                      have e1 : ¬ pa < la := by omega
                      have e2 : ¬ pa = la := by omega
                      rw [HBP.out, decide_eq_false e1, decide_eq_false e2]; rfl)
                    go_wp2_with (fail)
                    go_big_quiet (fail)
                    go_wp2_with (fail)
                    go_ret
                    exact ⟨ret_int (by rw [HRR.out, chkG_link (by rw [HN.out.1]; omega) (by rw [HL.out.1]; omega) (by rw [HN.out.1]; exact HT.out), lnkTo_bad (by rw [HL.out.1]; exact hjm) HLT.out HBD.out]), below_drewN HB3.out _⟩
                  · by_cases h6 : pa = la
                    · subst h6
                      by_cases h7 : lb ≤ pb
                      · have HBD := Lib.hid (show lnkBad ns ls j = true by
                          have e1 : ¬ pb < lb := by omega
                          rw [HBP.out, decide_eq_false (Int.lt_irrefl _), decide_eq_false e1]; simp)
                        go_wp2_with (fail)
                        go_big_quiet (fail)
                        go_wp2_with (fail)
                        go_ret
                        exact ⟨ret_int (by rw [HRR.out, chkG_link (by rw [HN.out.1]; omega) (by rw [HL.out.1]; omega) (by rw [HN.out.1]; exact HT.out), lnkTo_bad (by rw [HL.out.1]; exact hjm) HLT.out HBD.out]), below_drewN HB3.out _⟩
                      · have HBD := Lib.hid (show lnkBad ns ls j = false by
                          have e1 : pb < lb := by omega
                          rw [HBP.out, decide_eq_true e1]; simp)
                        have hd7 : decide (lb ≤ pb) = false := decide_eq_false h7
                        go_wp2_with (fail)
                        go_big_quiet (fail)
                        go_wp2_with (fail)
                        refine (rweight_any lw hwl _).mono ?_
                        rintro e w5 ⟨rfl, rfl⟩
                        obtain ⟨er, her⟩ : ∃ x, x = withinI lw 4697254411347427328 := ⟨_, rfl⟩
                        rw [← her]
                        have HER := Lib.hid her
                        clear her
                        by_cases hz : er = 0
                        · subst hz
                          go_wp2_with (fail)
                          go_roundw
                          case rel => exact ⟨j + 1, by omega, by go_num, Lib.hid (lnkTo_next HLT.out HBD.out (by rw [← HLW.out]; exact HER.out.symm)), below_drewN HB3a.out _⟩
                          case measure => simp [intOf]; omega
                        · have hzb : (er == 0) = false := by rw [beq_eq_false_iff_ne]; exact hz
                          go_wp2_with (fail)
                          go_ret
                          exact ⟨ret_int (by rw [HRR.out, chkG_link (by rw [HN.out.1]; omega) (by rw [HL.out.1]; omega) (by rw [HN.out.1]; exact HT.out), lnkTo_stay (k := j + 1) (by rw [HL.out.1]; omega) (by rw [lnkTo_weight HLT.out HBD.out, ← HLW.out, ← HER.out]; exact hz), lnkTo_weight HLT.out HBD.out, ← HLW.out, ← HER.out]), below_drewN HB3.out _⟩
                    · have h6b : (pa == la) = false := by rw [beq_eq_false_iff_ne]; exact h6
                      have HBD := Lib.hid (show lnkBad ns ls j = false by
                        have e1 : pa < la := by omega
                        rw [HBP.out, decide_eq_true e1]; rfl)
                      have hd5 : decide (la < pa) = false := decide_eq_false h5
                      go_wp2_with (fail)
                      go_big_quiet (fail)
                      go_wp2_with (fail)
                      refine (rweight_any lw hwl _).mono ?_
                      rintro e w5 ⟨rfl, rfl⟩
                      obtain ⟨er, her⟩ : ∃ x, x = withinI lw 4697254411347427328 := ⟨_, rfl⟩
                      rw [← her]
                      have HER := Lib.hid her
                      clear her
                      by_cases hz : er = 0
                      · subst hz
                        go_wp2_with (fail)
                        go_roundw
                        case rel => exact ⟨j + 1, by omega, by go_num, Lib.hid (lnkTo_next HLT.out HBD.out (by rw [← HLW.out]; exact HER.out.symm)), below_drewN HB3a.out _⟩
                        case measure => simp [intOf]; omega
                      · have hzb : (er == 0) = false := by rw [beq_eq_false_iff_ne]; exact hz
                        go_wp2_with (fail)
                        go_ret
                        exact ⟨ret_int (by rw [HRR.out, chkG_link (by rw [HN.out.1]; omega) (by rw [HL.out.1]; omega) (by rw [HN.out.1]; exact HT.out), lnkTo_stay (k := j + 1) (by rw [HL.out.1]; omega) (by rw [lnkTo_weight HLT.out HBD.out, ← HLW.out, ← HER.out]; exact hz), lnkTo_weight HLT.out HBD.out, ← HLW.out, ← HER.out]), below_drewN HB3.out _⟩
                · have HBD := Lib.hid (lnkBad_zero (ns := ns) (ls := ls) (i := j) (by rw [← HLA.out]; exact hpa) (by rw [← HLB.out]; exact hpb) (by rw [← HLA.out, ← HLB.out]; omega) hj0)
                  clear hc hpa hpb
                  go_wp2_with (fail)
                  go_big_quiet (fail)
                  go_wp2_with (fail)
                  refine (rweight_any lw hwl _).mono ?_
                  rintro e w5 ⟨rfl, rfl⟩
                  obtain ⟨er, her⟩ : ∃ x, x = withinI lw 4697254411347427328 := ⟨_, rfl⟩
                  rw [← her]
                  have HER := Lib.hid her
                  clear her
                  by_cases hz : er = 0
                  · subst hz
                    go_wp2_with (fail)
                    go_roundw
                    case rel => exact ⟨j + 1, by omega, by go_num, Lib.hid (lnkTo_next HLT.out HBD.out (by rw [← HLW.out]; exact HER.out.symm)), below_drewN HB3a.out _⟩
                    case measure => simp [intOf]; omega
                  · have hzb : (er == 0) = false := by rw [beq_eq_false_iff_ne]; exact hz
                    go_wp2_with (fail)
                    go_ret
                    exact ⟨ret_int (by rw [HRR.out, chkG_link (by rw [HN.out.1]; omega) (by rw [HL.out.1]; omega) (by rw [HN.out.1]; exact HT.out), lnkTo_stay (k := j + 1) (by rw [HL.out.1]; omega) (by rw [lnkTo_weight HLT.out HBD.out, ← HLW.out, ← HER.out]; exact hz), lnkTo_weight HLT.out HBD.out, ← HLW.out, ← HER.out]), below_drewN HB3.out _⟩
        · obtain rfl : j = m := by omega
          go_wp2_with (fail)
          go_ret
          exact ⟨ret_int (by rw [HRR.out, chkG_link (by rw [HN.out.1]; omega) (by rw [HL.out.1]; omega) (by rw [HN.out.1]; exact HT.out), HL.out.1]; exact HLT.out.symm), HBb.out⟩

end Go.Proofs.Ytgmljlgoaifneaa
