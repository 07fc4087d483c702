/- The walk of graph.Check. Conditions: as each theorem's hypotheses say. -/
import Derived.Test.YtgmljlgoaifneaaGow
import Derived.Deep.RegionHeld3
import Derived.BigQuiet
namespace Go.Proofs.Ytgmljlgoaifneaa
open Go.RowKit Flt Go.Mem Go.Lib
set_option linter.unusedVariables false

theorem heldB9 {w0 w : World} {b0 b1 b2 b3 b4 b5 b6 b7 b8 : Addr} {v0 v1 v2 v3 v4 v5 v6 v7 v8 : Value} (h : w.cell? b0 = some v0 ∧ w.cell? b1 = some v1 ∧ w.cell? b2 = some v2 ∧ w.cell? b3 = some v3 ∧ w.cell? b4 = some v4 ∧ w.cell? b5 = some v5 ∧ w.cell? b6 = some v6 ∧ w.cell? b7 = some v7 ∧ w.cell? b8 = some v8 ∧ Below w0.heap.size w0 w) : Below w0.heap.size w0 w := h.2.2.2.2.2.2.2.2.2
theorem held_keep9 {w0 w w' : World} {b0 b1 b2 b3 b4 b5 b6 b7 b8 : Addr} {v0 v1 v2 v3 v4 v5 v6 v7 v8 : Value} (h : w.cell? b0 = some v0 ∧ w.cell? b1 = some v1 ∧ w.cell? b2 = some v2 ∧ w.cell? b3 = some v3 ∧ w.cell? b4 = some v4 ∧ w.cell? b5 = some v5 ∧ w.cell? b6 = some v6 ∧ w.cell? b7 = some v7 ∧ w.cell? b8 = some v8 ∧ Below w0.heap.size w0 w) (hb : Below w.heap.size w w') :
    w'.cell? b0 = some v0 ∧ w'.cell? b1 = some v1 ∧ w'.cell? b2 = some v2 ∧ w'.cell? b3 = some v3 ∧ w'.cell? b4 = some v4 ∧ w'.cell? b5 = some v5 ∧ w'.cell? b6 = some v6 ∧ w'.cell? b7 = some v7 ∧ w'.cell? b8 = some v8 ∧ Below w0.heap.size w0 w' :=
  ⟨keep_cellG h.1 hb, keep_cellG h.2.1 hb, keep_cellG h.2.2.1 hb, keep_cellG h.2.2.2.1 hb, keep_cellG h.2.2.2.2.1 hb, keep_cellG h.2.2.2.2.2.1 hb, keep_cellG h.2.2.2.2.2.2.1 hb, keep_cellG h.2.2.2.2.2.2.2.1 hb, keep_cellG h.2.2.2.2.2.2.2.2.1 hb, h.2.2.2.2.2.2.2.2.2.trans (hb.mono h.2.2.2.2.2.2.2.2.2.size)⟩
theorem run_store_float (P : Program) (w : World) (a : Addr) (m : Mode) (k : FloatKind) (b : Nat) : (store a (.float k b) m).run P w = stored P w a (.float k b) m := run_store P w a _ m rfl
attribute [local go_sem] run_store_float
set_option maxHeartbeats 1600000
set_option maxRecDepth 100000
theorem alloc_keep {w : World} {b : Addr} {v : Value} (h : w.cell? b = some v) (o : Obj) : (w.alloc o).cell? b = some v := keep_cellG h ((Below.refl _ _).alloc (Nat.le_refl _) _)
theorem idOk_iff {x : Int} : idOk x = true ↔ 1 ≤ x ∧ x ≤ 2147483647 := by unfold idOk; simp
theorem checkid_ok {x : Int} (h : idOk x = true) (w : World) : Calls Try.prog 26 #[.int .i64 x] w fun e w' => e = .returned (.int .i64 0) ∧ w' = w := by
  obtain ⟨h0, h1⟩ := idOk_iff.1 h
  have h2 : ¬ x < 1 := by omega
  have h3 : ¬ 2147483647 < x := by omega
  go_enter Try.func26, Try.ntmps26
  go_wp2
  go_ret
  exact ⟨rfl, rfl⟩
theorem checkid_bad {x : Int} (h : idOk x = false) (w : World) : Calls Try.prog 26 #[.int .i64 x] w fun e w' => e = .returned (.int .i64 20) ∧ w' = w := by
  have h' : ¬ (1 ≤ x ∧ x ≤ 2147483647) := fun g => by rw [idOk_iff.2 g] at h; cases h
  by_cases h2 : x < 1
  · go_enter Try.func26, Try.ntmps26
    go_wp2
    go_ret
    exact ⟨rfl, rfl⟩
  · have h3 : 2147483647 < x := by omega
    go_enter Try.func26, Try.ntmps26
    go_wp2
    go_ret
    exact ⟨rfl, rfl⟩
theorem nodTo_next {ns : List Nd} {i : Nat} (h : nodTo ns i = false) (hb : nodBad ns i = false) : nodTo ns (i + 1) = false := by unfold nodTo; rw [h, hb]; rfl
theorem nodBad_id {ns : List Nd} {i : Nat} (h : idOk (ndA ns i).id = false) : nodBad ns i = true := by unfold nodBad; rw [h]; rfl
theorem nodBad_zero {ns : List Nd} (h : idOk (ndA ns 0).id = true) : nodBad ns 0 = false := by unfold nodBad; rw [h]; rfl
theorem nodBad_prev {ns : List Nd} {i : Nat} (h : idOk (ndA ns i).id = true) (h0 : 0 < i) : nodBad ns i = decide ((ndA ns i).id ≤ (ndA ns (i - 1)).id) := by unfold nodBad; rw [h, decide_eq_true h0]; rfl
theorem lnkBad_a {ns : List Nd} {ls : List Lk} {i : Nat} (h : hasN ns (lkA ls i).a = false) : lnkBad ns ls i = true := by unfold lnkBad; rw [h]; rfl
theorem lnkBad_b {ns : List Nd} {ls : List Lk} {i : Nat} (h : hasN ns (lkA ls i).b = false) : lnkBad ns ls i = true := by unfold lnkBad; rw [h]; simp
theorem lnkBad_ab {ns : List Nd} {ls : List Lk} {i : Nat} (h : (lkA ls i).b ≤ (lkA ls i).a) : lnkBad ns ls i = true := by unfold lnkBad; rw [decide_eq_true h]; simp
theorem lnkBad_zero {ns : List Nd} {ls : List Lk} {i : Nat} (ha : hasN ns (lkA ls i).a = true) (hb : hasN ns (lkA ls i).b = true) (h : ¬ (lkA ls i).b ≤ (lkA ls i).a) (h0 : ¬ 0 < i) : lnkBad ns ls i = false := by
  unfold lnkBad; rw [ha, hb, decide_eq_false h, decide_eq_false h0]; rfl
theorem lnkBad_prev {ns : List Nd} {ls : List Lk} {i : Nat} (ha : hasN ns (lkA ls i).a = true) (hb : hasN ns (lkA ls i).b = true) (h : ¬ (lkA ls i).b ≤ (lkA ls i).a) (h0 : 0 < i) : lnkBad ns ls i = !lkLt (lkA ls (i - 1)) (lkA ls i) := by
  unfold lnkBad; rw [ha, hb, decide_eq_false h, decide_eq_true h0]; rfl
theorem lnkTo_next {ns : List Nd} {ls : List Lk} {k : Nat} (h : lnkTo ns ls k = 0) (hb : lnkBad ns ls k = false) (hw : withinI (lkA ls k).w 4697254411347427328 = 0) : lnkTo ns ls (k + 1) = 0 := (lnkTo_weight h hb).trans hw
theorem ordZ_ge {x y : Lk} : lkLt x y = false → ¬ ordZ x y < 0 := fun h g => by rw [ordZ_lt.1 g] at h; cases h
theorem check_any (A A2 : Option Addr) (n c m c2 : Nat) (ns : List Nd) (ls : List Lk) (w : World) (hg : GN w w.heap.size A n ns) (hl : GL w w.heap.size A2 m ls) (hw : ∀ i, i < m → (lkA ls i).w < 18446744073709551616) (hn : n ≤ 1152921504606846976) (hm : m ≤ 1152921504606846976) :
    Calls Try.prog 10 #[.agg #[.slice A n c, .slice A2 m c2]] w fun e w' => e = .returned (.int .i64 (chkG ns ls)) ∧ Below w.heap.size w w' := by
  have HN := Lib.hid hg
  have HL := Lib.hid hl
  have HW := Lib.hid hw
  obtain ⟨r, hr⟩ : ∃ r, r = chkG ns ls := ⟨_, rfl⟩
  rw [← hr]
  have HRR := Lib.hid hr
  clear hr hg hl hw
  by_cases h0 : 256 < n
  · go_enter Try.func10, Try.ntmps10
    go_wp2_with (fail)
    go_ret
    exact ⟨ret_int (by rw [HRR.out, chkG_full (.inl (by rw [HN.out.1]; exact h0))]), (Below.refl _ _).alloc (Nat.le_refl _) _⟩
  by_cases h1 : 4096 < m
  · go_enter Try.func10, Try.ntmps10
    go_wp2_with (fail)
    go_ret
    exact ⟨ret_int (by rw [HRR.out, chkG_full (.inr (by rw [HL.out.1]; exact h1))]), (Below.refl _ _).alloc (Nat.le_refl _) _⟩
  go_enter Try.func10, Try.ntmps10
  go_wp2_with (fail)
  have HX := Lib.hid (show (w.alloc (.cells #[.slice A n c, .slice A2 m c2] 25)).cell? ⟨w.heap.size, 0, none⟩ = some (.slice A n c) ∧ (w.alloc (.cells #[.slice A n c, .slice A2 m c2] 25)).cell? ⟨w.heap.size, 1, none⟩ = some (.slice A2 m c2) ∧ Below w.heap.size w (w.alloc (.cells #[.slice A n c, .slice A2 m c2] 25)) ∧ w.heap.size < (w.alloc (.cells #[.slice A n c, .slice A2 m c2] 25)).heap.size from ⟨by simp [go_sem], by simp [go_sem], (Below.refl _ _).alloc (Nat.le_refl _) _, by simp⟩)
  generalize hW1 : w.alloc (.cells #[.slice A n c, .slice A2 m c2] 25) = W1 at *
  clear hW1
  go_loopw [25] (fun iv wr => ∃ i : Nat, i ≤ n ∧ iv = .int .i64 i ∧ Hid (nodTo ns i = false) ∧ Below W1.heap.size W1 wr) (fun iv _ => n - (intOf iv).toNat)
  case atStart => exact ⟨0, Nat.zero_le _, rfl, Lib.hid rfl, Below.refl _ _⟩
  case round =>
    obtain ⟨i, hi, rfl, HT, hbt⟩ := hrel
    obtain ⟨wa, rfl⟩ : ∃ wa : World, wa = wr := ⟨_, rfl⟩
    have e0 := keep_cellG HX.out.1 hbt
    have e1 := keep_cellG HX.out.2.1 hbt
    have HB := Lib.hid (HX.out.2.2.1.trans (hbt.mono HX.out.2.2.1.size))
    have HB1 := Lib.hid hbt
    clear hbt
    by_cases hin : i < n
    · obtain ⟨b, off, rfl, hbl, hc⟩ := HN.out.at (by omega)
      obtain ⟨c0, c1, c2'⟩ := hc i hin
      have d0 := (HB.out.cell (p := ⟨b, off + i * 3, none⟩) hbl).trans c0
      have d1 := (HB.out.cell (p := ⟨b, off + (i * 3 + 1), none⟩) hbl).trans c1
      have d2 := (HB.out.cell (p := ⟨b, off + (i * 3 + 2), none⟩) hbl).trans c2'
      rw [← Nat.add_assoc] at d1 d2
      obtain ⟨x, hx⟩ : ∃ x, x = (ndA ns i).id := ⟨_, rfl⟩
      rw [← hx] at d0
      have HXX := Lib.hid hx
      clear hx c0 c1 c2'
      obtain ⟨o, ho⟩ : ∃ o, o = Obj.cells #[.int .i64 x, .bool (ndA ns i).up, .bool (ndA ns i).mark] 52 := ⟨_, rfl⟩
      have HBV := Lib.hid (HB.out.alloc HB.out.size o)
      have HBV1 := Lib.hid (HB1.out.alloc HB1.out.size o)
      have f0 := alloc_keep e0 o
      have fn0 : (wa.alloc o).cell? ⟨wa.heap.size, 0, none⟩ = some (.int .i64 x) := by rw [ho]; simp [go_sem]
      rw [ho] at f0 fn0 HBV HBV1
      clear ho
      cases hid : idOk x
      · have HBD := Lib.hid (nodBad_id (ns := ns) (i := i) (by rw [← HXX.out]; exact hid))
        clear hc
        go_wp2_with (fail)
        go_big_quiet (first | (go_at_call 26; first | exact quiet_more (checkid_ok hid _) | exact Calls.quiet_of_same (checkid_ok hid _) | exact quiet_more (checkid_bad hid _) | exact Calls.quiet_of_same (checkid_bad hid _)) | exact quiet_more (checkid_ok hid _) | exact Calls.quiet_of_same (checkid_ok hid _) | exact quiet_more (checkid_bad hid _) | exact Calls.quiet_of_same (checkid_bad hid _))
        go_wp2_with (fail)
        go_ret
        exact ⟨ret_int (by rw [HRR.out, chkG_node (by rw [HN.out.1]; omega) (by rw [HL.out.1]; omega) (nodTo_bad (by rw [HN.out.1]; exact hin) HBD.out)]), below_drewN HBV.out _⟩
      · by_cases hi1 : 0 < i
        · obtain ⟨p, hp⟩ : ∃ p, p = i - 1 := ⟨_, rfl⟩
          have hp2 : (i : Int) - 1 = (p : Int) := by omega
          have hwp : IntKind.i64.wrap (p : Int) = (p : Int) := IntWalk.i64_in _ (by omega)
          have hpn : p < n := by omega
          have dp := alloc_keep ((HB.out.cell (p := ⟨b, off + p * 3, none⟩) hbl).trans (hc p hpn).1) (Obj.cells #[.int .i64 x, .bool (ndA ns i).up, .bool (ndA ns i).mark] 52)
          have hbp := nodBad_prev (ns := ns) (i := i) (by rw [← HXX.out]; exact hid) hi1
          rw [← HXX.out, ← hp] at hbp
          obtain ⟨y, hy⟩ : ∃ y, y = (ndA ns p).id := ⟨_, rfl⟩
          rw [← hy] at dp hbp
          have HP := Lib.hid hp
          have HBP := Lib.hid hbp
          clear hc hp hbp hy
          by_cases hxy : x ≤ y
          · have HBD := Lib.hid (HBP.out.trans (decide_eq_true hxy))
            go_wp2_with (fail)
            go_big_quiet (first | (go_at_call 26; first | exact quiet_more (checkid_ok hid _) | exact Calls.quiet_of_same (checkid_ok hid _) | exact quiet_more (checkid_bad hid _) | exact Calls.quiet_of_same (checkid_bad hid _)) | exact quiet_more (checkid_ok hid _) | exact Calls.quiet_of_same (checkid_ok hid _) | exact quiet_more (checkid_bad hid _) | exact Calls.quiet_of_same (checkid_bad hid _))
            go_wp2_with (fail)
            go_ret
            exact ⟨ret_int (by rw [HRR.out, chkG_node (by rw [HN.out.1]; omega) (by rw [HL.out.1]; omega) (nodTo_bad (by rw [HN.out.1]; exact hin) HBD.out)]), below_drewN HBV.out _⟩
          · have HBD := Lib.hid (HBP.out.trans (decide_eq_false hxy))
            go_wp2_with (fail)
            go_big_quiet (first | (go_at_call 26; first | exact quiet_more (checkid_ok hid _) | exact Calls.quiet_of_same (checkid_ok hid _) | exact quiet_more (checkid_bad hid _) | exact Calls.quiet_of_same (checkid_bad hid _)) | exact quiet_more (checkid_ok hid _) | exact Calls.quiet_of_same (checkid_ok hid _) | exact quiet_more (checkid_bad hid _) | exact Calls.quiet_of_same (checkid_bad hid _))
            go_wp2_with (fail)
            go_roundw
            case rel => exact ⟨i + 1, by omega, by go_num, Lib.hid (nodTo_next HT.out HBD.out), below_drewN HBV1.out _⟩
            case measure => simp [intOf]; omega
        · have HBD := Lib.hid (show nodBad ns i = false by
            have e : i = 0 := by omega
            have g := HXX.out
            rw [e] at g ⊢
            exact nodBad_zero (by rw [← g]; exact hid))
          clear hc
          go_wp2_with (fail)
          go_big_quiet (first | (go_at_call 26; first | exact quiet_more (checkid_ok hid _) | exact Calls.quiet_of_same (checkid_ok hid _) | exact quiet_more (checkid_bad hid _) | exact Calls.quiet_of_same (checkid_bad hid _)) | exact quiet_more (checkid_ok hid _) | exact Calls.quiet_of_same (checkid_ok hid _) | exact quiet_more (checkid_bad hid _) | exact Calls.quiet_of_same (checkid_bad hid _))
          go_wp2_with (fail)
          go_roundw
          case rel => exact ⟨i + 1, by omega, by go_num, Lib.hid (nodTo_next HT.out HBD.out), below_drewN HBV1.out _⟩
          case measure => simp [intOf]; omega
    · obtain rfl : i = n := by omega
      have HRI := Lib.hid (rise_of (ns := ns) (by rw [HN.out.1]; exact HT.out))
      have ND := Lib.hid (fun t w' (h : Below w.heap.size w w') => node_any A A2 i c m c2 ns t w' ((HN.out.below h).more h.size) HRI.out hn)
      go_wp2_with (fail)
      have HWA := Lib.hid (Below.refl wa.heap.size wa)
      go_loopw [54] (fun jv wr => ∃ j : Nat, j ≤ m ∧ jv = .int .i64 j ∧ Hid (lnkTo ns ls j = 0) ∧ Below wa.heap.size wa wr) (fun jv _ => m - (intOf jv).toNat)
      case atStart => exact ⟨0, Nat.zero_le _, rfl, Lib.hid rfl, HWA.out⟩
      case round =>
        obtain ⟨j, hj, rfl, HLT, hbt⟩ := hrel
        obtain ⟨wb, rfl⟩ : ∃ wb : World, wb = wr := ⟨_, rfl⟩
        have g0 := keep_cellG e0 hbt
        have g1 := keep_cellG e1 hbt
        have HBb := Lib.hid (HB.out.trans (hbt.mono HB.out.size))
        have HBa := Lib.hid hbt
        clear hbt e0 e1
        by_cases hjm : j < m
        · obtain ⟨b2, off2, rfl, hbl2, hc⟩ := HL.out.at (by omega)
          obtain ⟨k0, k1, k2, k3⟩ := hc j hjm
          have d0 := (HBb.out.cell (p := ⟨b2, off2 + j * 4, none⟩) hbl2).trans k0
          have d1 := (HBb.out.cell (p := ⟨b2, off2 + (j * 4 + 1), none⟩) hbl2).trans k1
          have d2 := (HBb.out.cell (p := ⟨b2, off2 + (j * 4 + 2), none⟩) hbl2).trans k2
          have d3 := (HBb.out.cell (p := ⟨b2, off2 + (j * 4 + 3), none⟩) hbl2).trans k3
          rw [← Nat.add_assoc] at d1 d2 d3
          have hwl := HW.out j hjm
          obtain ⟨la, hla⟩ : ∃ x, x = (lkA ls j).a := ⟨_, rfl⟩
          obtain ⟨lb, hlb⟩ : ∃ x, x = (lkA ls j).b := ⟨_, rfl⟩
          obtain ⟨lw, hlw⟩ : ∃ x, x = (lkA ls j).w := ⟨_, rfl⟩
          obtain ⟨lu, hlu⟩ : ∃ x, x = (lkA ls j).up := ⟨_, rfl⟩
          rw [← hla] at d0
          rw [← hlb] at d1
          rw [← hlw] at d2 hwl
          rw [← hlu] at d3
          have HLA := Lib.hid hla
          have HLB := Lib.hid hlb
          have HLW := Lib.hid hlw
          have HLU := Lib.hid hlu
          clear hla hlb hlw hlu k0 k1 k2 k3
          obtain ⟨o, ho⟩ : ∃ o, o = Obj.cells #[.int .i64 la, .int .i64 lb, .float .f64 lw, .bool lu] 54 := ⟨_, rfl⟩
          have HBV := Lib.hid (HBb.out.alloc HBb.out.size o)
          have HBVa := Lib.hid (HBa.out.alloc HBa.out.size o)
          have p0 := alloc_keep g0 o
          have p1 := alloc_keep g1 o
          have q0 : (wb.alloc o).cell? ⟨wb.heap.size, 0, none⟩ = some (.int .i64 la) := by rw [ho]; simp [go_sem]
          have q1 : (wb.alloc o).cell? ⟨wb.heap.size, 1, none⟩ = some (.int .i64 lb) := by rw [ho]; simp [go_sem]
          have q2 : (wb.alloc o).cell? ⟨wb.heap.size, 2, none⟩ = some (.float .f64 lw) := by rw [ho]; simp [go_sem]
          have q3 : (wb.alloc o).cell? ⟨wb.heap.size, 3, none⟩ = some (.bool lu) := by rw [ho]; simp [go_sem]
          rw [ho] at p0 p1 q0 q1 q2 q3 HBV HBVa
          clear ho
          go_wp2_with (fail)
          refine (ND.out la _ HBV.out).mono ?_
          rintro e w2 ⟨rfl, hb2⟩
          have r0 := keep_cellG p0 hb2
          have r1 := keep_cellG p1 hb2
          have s0 := keep_cellG q0 hb2
          have s1 := keep_cellG q1 hb2
          have s2 := keep_cellG q2 hb2
          have s3 := keep_cellG q3 hb2
          have HB2 := Lib.hid (HBV.out.trans (hb2.mono HBV.out.size))
          have HB2a := Lib.hid (HBVa.out.trans (hb2.mono HBVa.out.size))
          clear p0 p1 q0 q1 q2 q3 d0 d1 d2 d3 hb2 g0 g1
          go_wp2_with (fail)
          refine (ND.out lb _ HB2.out).mono ?_
          rintro e w3 ⟨rfl, hb3⟩
          have t0 := keep_cellG r0 hb3
          have t1 := keep_cellG r1 hb3
          have v0 := keep_cellG s0 hb3
          have v1 := keep_cellG s1 hb3
          have v2 := keep_cellG s2 hb3
          have v3 := keep_cellG s3 hb3
          have HB3 := Lib.hid (HB2.out.trans (hb3.mono HB2.out.size))
          have HB3a := Lib.hid (HB2a.out.trans (hb3.mono HB2a.out.size))
          clear r0 r1 s0 s1 s2 s3 hb3
          cases hpa : hasN ns la
          · have HBD := Lib.hid (lnkBad_a (ns := ns) (ls := ls) (i := j) (by rw [← HLA.out]; exact hpa))
            clear hc hpa
            go_wp2_with (fail)
            go_big_quiet (fail)
            go_wp2_with (fail)
            go_ret
            exact ⟨ret_int (by rw [HRR.out, chkG_link (by rw [HN.out.1]; omega) (by rw [HL.out.1]; omega) (by rw [HN.out.1]; exact HT.out), lnkTo_bad (by rw [HL.out.1]; exact hjm) HLT.out HBD.out]), below_drewN HB3.out _⟩
          · cases hpb : hasN ns lb
            · have HBD := Lib.hid (lnkBad_b (ns := ns) (ls := ls) (i := j) (by rw [← HLB.out]; exact hpb))
              clear hc hpa hpb
              go_wp2_with (fail)
              go_big_quiet (fail)
              go_wp2_with (fail)
              go_ret
              exact ⟨ret_int (by rw [HRR.out, chkG_link (by rw [HN.out.1]; omega) (by rw [HL.out.1]; omega) (by rw [HN.out.1]; exact HT.out), lnkTo_bad (by rw [HL.out.1]; exact hjm) HLT.out HBD.out]), below_drewN HB3.out _⟩
            · by_cases hab : lb ≤ la
              · have HBD := Lib.hid (lnkBad_ab (ns := ns) (ls := ls) (i := j) (by rw [← HLA.out, ← HLB.out]; exact hab))
                clear hc hpa hpb
                go_wp2_with (fail)
                go_big_quiet (fail)
                go_wp2_with (fail)
                go_ret
                exact ⟨ret_int (by rw [HRR.out, chkG_link (by rw [HN.out.1]; omega) (by rw [HL.out.1]; omega) (by rw [HN.out.1]; exact HT.out), lnkTo_bad (by rw [HL.out.1]; exact hjm) HLT.out HBD.out]), below_drewN HB3.out _⟩
              · by_cases hj0 : 0 < j
                · obtain ⟨p, hp⟩ : ∃ p, p = j - 1 := ⟨_, rfl⟩
                  have hp2 : (j : Int) - 1 = (p : Int) := by omega
                  have hwp : IntKind.i64.wrap (p : Int) = (p : Int) := IntWalk.i64_in _ (by omega)
                  have hpm : p < m := by omega
                  obtain ⟨k0, k1, k2, k3⟩ := hc p hpm
                  have d0 := (HB3.out.cell (p := ⟨b2, off2 + p * 4, none⟩) hbl2).trans k0
                  have d1 := (HB3.out.cell (p := ⟨b2, off2 + (p * 4 + 1), none⟩) hbl2).trans k1
                  have d2 := (HB3.out.cell (p := ⟨b2, off2 + (p * 4 + 2), none⟩) hbl2).trans k2
                  have d3 := (HB3.out.cell (p := ⟨b2, off2 + (p * 4 + 3), none⟩) hbl2).trans k3
                  rw [← Nat.add_assoc] at d1 d2 d3
                  have hbp := lnkBad_prev (ns := ns) (ls := ls) (i := j) (by rw [← HLA.out]; exact hpa) (by rw [← HLB.out]; exact hpb) (by rw [← HLA.out, ← HLB.out]; exact hab) hj0
                  rw [← hp] at hbp
                  have OD := fun W => order_any (lkA ls p) (lkA ls j) W
                  unfold lkV at OD
                  rw [← HLA.out, ← HLB.out, ← HLW.out, ← HLU.out] at OD
                  obtain ⟨od, hod⟩ : ∃ x, x = ordZ (lkA ls p) (lkA ls j) := ⟨_, rfl⟩
                  rw [← hod] at OD
                  have HOD := Lib.hid OD
                  have HO := Lib.hid hod
                  have HP := Lib.hid hp
                  have HBP := Lib.hid hbp
                  clear hc k0 k1 k2 k3 hp hbp OD hod hpa hpb
                  generalize (lkA ls p).a = pa at *
                  generalize (lkA ls p).b = pb at *
                  generalize (lkA ls p).w = pw at *
                  generalize (lkA ls p).up = pu at *
                  have hdab : decide (lb ≤ la) = false := decide_eq_false hab
                  have hdj : decide ((0 : Int) < (j : Int)) = true := decide_eq_true (by omega)
                  have hB3 := Below.refl w3.heap.size w3
                  have hB3d := hB3.drew
                  by_cases hlt : od < 0
                  · have HBD := Lib.hid (show lnkBad ns ls j = false by rw [HBP.out, ordZ_lt.1 (by rw [← HO.out]; exact hlt)]; rfl)
                    have hnz : ¬ 0 ≤ od := by omega
                    go_wp2_with (fail)
                    go_region_held3 (fun w' => w'.cell? ⟨w.heap.size, 1, none⟩ = some (.slice (some ⟨b2, off2, none⟩) m c2) ∧ w'.cell? ⟨wb.heap.size, 0, none⟩ = some (.int .i64 la) ∧ w'.cell? ⟨wb.heap.size, 1, none⟩ = some (.int .i64 lb) ∧ w'.cell? ⟨wb.heap.size, 2, none⟩ = some (.float .f64 lw) ∧ w'.cell? ⟨wb.heap.size, 3, none⟩ = some (.bool lu) ∧ w'.cell? ⟨b2, off2 + p * 4, none⟩ = some (.int .i64 pa) ∧ w'.cell? ⟨b2, off2 + p * 4 + 1, none⟩ = some (.int .i64 pb) ∧ w'.cell? ⟨b2, off2 + p * 4 + 2, none⟩ = some (.float .f64 pw) ∧ w'.cell? ⟨b2, off2 + p * 4 + 3, none⟩ = some (.bool pu) ∧ Below w3.heap.size w3 w')
                      (first | exact held_keep9 (by assumption) hb | go_keep)
                      (first | (go_at_call 28; refine (HOD.out _).mono ?_; rintro z w' ⟨rfl, hb⟩))
                    have hb4 := heldB9 (by assumption)
                    have x2 := keep_cellG v2 hb4
                    go_wp2_with (fail)
                    refine (weight_any lw hwl _).mono ?_
                    rintro e w5 ⟨rfl, rfl⟩
                    obtain ⟨er, her⟩ : ∃ x, x = withinI lw 4697254411347427328 := ⟨_, rfl⟩
                    rw [← her]
                    have HER := Lib.hid her
                    clear her
                    by_cases hz : er = 0
                    · subst hz
                      go_wp2_with (fail)
                      go_roundw
                      case rel => exact ⟨j + 1, by omega, by go_num, Lib.hid (lnkTo_next HLT.out HBD.out (by rw [← HLW.out]; exact HER.out.symm)), HB3a.out.trans (hb4.mono HB3a.out.size)⟩
                      case measure => simp [intOf]; omega
                    · have hzb : (er == 0) = false := by rw [beq_eq_false_iff_ne]; exact hz
                      go_wp2_with (fail)
                      go_ret
                      exact ⟨ret_int (by rw [HRR.out, chkG_link (by rw [HN.out.1]; omega) (by rw [HL.out.1]; omega) (by rw [HN.out.1]; exact HT.out), lnkTo_stay (k := j + 1) (by rw [HL.out.1]; omega) (by rw [lnkTo_weight HLT.out HBD.out, ← HLW.out, ← HER.out]; exact hz), lnkTo_weight HLT.out HBD.out, ← HLW.out, ← HER.out]), HB3.out.trans (hb4.mono HB3.out.size)⟩
                  · have HBD := Lib.hid (show lnkBad ns ls j = true by
                      have : lkLt (lkA ls p) (lkA ls j) = false := by
                        cases h : lkLt (lkA ls p) (lkA ls j)
                        · rfl
                        · exact absurd (ordZ_lt.2 h) (by rw [← HO.out]; exact hlt)
                      rw [HBP.out, this]; rfl)
                    have hnz : 0 ≤ od := by omega
                    go_wp2_with (fail)
                    go_region_held3 (fun w' => w'.cell? ⟨w.heap.size, 1, none⟩ = some (.slice (some ⟨b2, off2, none⟩) m c2) ∧ w'.cell? ⟨wb.heap.size, 0, none⟩ = some (.int .i64 la) ∧ w'.cell? ⟨wb.heap.size, 1, none⟩ = some (.int .i64 lb) ∧ w'.cell? ⟨wb.heap.size, 2, none⟩ = some (.float .f64 lw) ∧ w'.cell? ⟨wb.heap.size, 3, none⟩ = some (.bool lu) ∧ w'.cell? ⟨b2, off2 + p * 4, none⟩ = some (.int .i64 pa) ∧ w'.cell? ⟨b2, off2 + p * 4 + 1, none⟩ = some (.int .i64 pb) ∧ w'.cell? ⟨b2, off2 + p * 4 + 2, none⟩ = some (.float .f64 pw) ∧ w'.cell? ⟨b2, off2 + p * 4 + 3, none⟩ = some (.bool pu) ∧ Below w3.heap.size w3 w')
                      (first | exact held_keep9 (by assumption) hb | go_keep)
                      (first | (go_at_call 28; refine (HOD.out _).mono ?_; rintro z w' ⟨rfl, hb⟩))
                    have hb4 := heldB9 (by assumption)
                    go_wp2_with (fail)
                    go_ret
                    exact ⟨ret_int (by rw [HRR.out, chkG_link (by rw [HN.out.1]; omega) (by rw [HL.out.1]; omega) (by rw [HN.out.1]; exact HT.out), lnkTo_bad (by rw [HL.out.1]; exact hjm) HLT.out HBD.out]), HB3.out.trans (hb4.mono HB3.out.size)⟩
                · have HBD := Lib.hid (lnkBad_zero (ns := ns) (ls := ls) (i := j) (by rw [← HLA.out]; exact hpa) (by rw [← HLB.out]; exact hpb) (by rw [← HLA.out, ← HLB.out]; exact hab) hj0)
                  have hdab : decide (lb ≤ la) = false := decide_eq_false hab
                  have hdj : decide ((0 : Int) < (j : Int)) = false := decide_eq_false (by omega)
                  clear hc hpa hpb
                  go_wp2_with (fail)
                  go_big_quiet (fail)
                  go_wp2_with (fail)
                  refine (weight_any lw hwl _).mono ?_
                  rintro e w5 ⟨rfl, rfl⟩
                  obtain ⟨er, her⟩ : ∃ x, x = withinI lw 4697254411347427328 := ⟨_, rfl⟩
                  rw [← her]
                  have HER := Lib.hid her
                  clear her
                  by_cases hz : er = 0
                  · subst hz
                    go_wp2_with (fail)
                    go_roundw
                    case rel => exact ⟨j + 1, by omega, by go_num, Lib.hid (lnkTo_next HLT.out HBD.out (by rw [← HLW.out]; exact HER.out.symm)), below_drewN HB3a.out _⟩
                    case measure => simp [intOf]; omega
                  · have hzb : (er == 0) = false := by rw [beq_eq_false_iff_ne]; exact hz
                    go_wp2_with (fail)
                    go_ret
                    exact ⟨ret_int (by rw [HRR.out, chkG_link (by rw [HN.out.1]; omega) (by rw [HL.out.1]; omega) (by rw [HN.out.1]; exact HT.out), lnkTo_stay (k := j + 1) (by rw [HL.out.1]; omega) (by rw [lnkTo_weight HLT.out HBD.out, ← HLW.out, ← HER.out]; exact hz), lnkTo_weight HLT.out HBD.out, ← HLW.out, ← HER.out]), below_drewN HB3.out _⟩
        · obtain rfl : j = m := by omega
          go_wp2_with (fail)
          go_ret
          exact ⟨ret_int (by rw [HRR.out, chkG_link (by rw [HN.out.1]; omega) (by rw [HL.out.1]; omega) (by rw [HN.out.1]; exact HT.out), HL.out.1]; exact HLT.out.symm), HBb.out⟩

end Go.Proofs.Ytgmljlgoaifneaa
