/- The walk of the law on exact sums. Conditions: the numbers fit int32 and uint16; the library's table of powers of ten lies as its text lays it. -/
import Derived.Test.YtjcgachdnkdamaaDoorStt
import Derived.Test.YtjcgachdnkdamaaDoorSxp
import Derived.BigRegion
import Derived.IntWalk
import Derived.RegionTactic
import Derived.ChangeAlike
namespace Go.Proofs.YtjcgachdnkdamaaDoor
open Go.RowKit Flt Go.Mem

theorem infoF : (Tryd.prog.info? 25).map (fun i => (i.zero, i.size, i.bytes)) = some (some (.float .f64 0), 1, 8) := by kernel_rfl
noncomputable def QL (f : Nat → Int) (k : Nat) : List Value := (List.range k).map fun i => .float .f64 (qf (f i))
theorem QL_len (f : Nat → Int) (k : Nat) : (QL f k).length = k := by simp [QL]
theorem QL_snoc (f : Nat → Int) (k : Nat) : QL f k ++ [.float .f64 (qf (f k))] = QL f (k + 1) := range_snoc (fun i => Value.float .f64 (qf (f i))) k
/-- a row of quarters that may be written -/
def QRow (w : World) (B : Nat) (A : Option Addr) (n : Nat) (g : Nat → Int) : Prop :=
  0 < n → ∃ b off, A = some ⟨b, off, none⟩ ∧ B ≤ b ∧ b < w.heap.size ∧ ∀ i, i < n → w.cell? ⟨b, off + i, none⟩ = some (.float .f64 (qf (g i))) ∧ w.frozen? ⟨b, off + i, none⟩ = false
theorem QRow.of_own {w : World} {B n : Nat} {A : Option Addr} {c : Nat} {e : TypeId} {g : Nat → Int} (h : w.ownsRow B e 1 (.slice A n c) n (QL g n)) : QRow w B A n g := fun hn => by
  have hr := Row.of_own h
  obtain ⟨b, off, rfl, hlt, hc⟩ := hr.2 hn
  rcases h.2 with ⟨_, h0⟩ | ⟨b', cap, cur, hv, hB, hh, _⟩
  · omega
  · simp only [Value.slice.injEq, Option.some.injEq, Addr.mk.injEq] at hv
    obtain ⟨⟨rfl, rfl, _⟩, _⟩ := hv
    refine ⟨_, _, rfl, hB, hlt, fun i hi => ⟨hc i _ (range_get _ hi), ?_⟩⟩
    simp [World.frozen?, hh]
theorem QRow.frow {w : World} {B n : Nat} {A : Option Addr} {g : Nat → Int} (h : QRow w B A n g) : FRow w w.heap.size A n ((List.range n).map fun i => qf (g i)) := by
  refine ⟨by simp, fun hn => ?_⟩
  obtain ⟨b, off, e, _, hb, hc⟩ := h hn
  refine ⟨b, off, e, hb, fun i hi => ?_⟩
  rw [(hc i hi).1]
  unfold fat
  rw [List.getD_eq_getElem?_getD, range_get _ hi]; rfl
theorem QRow.swap {w : World} {B n b off i j q : Nat} {g : Nat → Int} (h : QRow w B (some ⟨b, off, none⟩) n g) (hi : i < n) (hj : j < n) (hij : i ≠ j) :
    QRow (((w.drewN q).setCell ⟨b, off + i, none⟩ (.float .f64 (qf (g j)))).setCell ⟨b, off + j, none⟩ (.float .f64 (qf (g i)))) B (some ⟨b, off, none⟩) n (swpF g i j) := fun hn => by
  obtain ⟨b', off', e, hB, hb, hc⟩ := h hn
  simp only [Option.some.injEq, Addr.mk.injEq] at e
  obtain ⟨rfl, rfl, _⟩ := e
  refine ⟨_, _, rfl, hB, by simpa [World.setCell] using hb, fun t ht => ?_⟩
  have c0 := (hc t ht).1
  have ci := (hc i hi).1
  have cj := (hc j hj).1
  have f0 := (hc t ht).2
  have e1 : (⟨b, off + i, none⟩ : Addr) ≠ ⟨b, off + j, none⟩ := by simp <;> omega
  constructor
  · by_cases ht2 : t = j
    · subst ht2
      have : ((w.drewN q).setCell ⟨b, off + i, none⟩ (.float .f64 (qf (g t)))).cell? ⟨b, off + t, none⟩ = some (.float .f64 (qf (g t))) := by
        rw [World.cell?_setCell_other _ _ _ _ e1]; exact cj
      rw [World.cell?_setCell_same _ _ _ this]
      unfold swpF upd; rw [if_pos rfl]
    · rw [World.cell?_setCell_other _ _ _ _ (by simp <;> omega)]
      by_cases ht3 : t = i
      · subst ht3
        rw [World.cell?_setCell_same (w.drewN q) _ _ (u := .float .f64 (qf (g t))) ci]
        unfold swpF upd; rw [if_neg ht2, if_pos rfl]
      · rw [World.cell?_setCell_other _ _ _ _ (by simp <;> omega)]
        refine Eq.trans c0 ?_
        unfold swpF upd; rw [if_neg ht2, if_neg ht3]
  · simpa [go_sem] using f0
theorem sumQ_any (K c B : Nat) (A : Option Addr) (f : Nat → Int) (w : World) (hl : FRow w B A K ((List.range K).map fun i => qf (f i))) (hK : K ≤ 1024) (hs : Small f K) :
    Calls Tryd.prog 10 #[.slice A K c] w fun e w' => e = .returned (.float .f64 (qf (sumN f K))) ∧ ∃ d, w' = w.drewN d := by
  have h := sum_any A K c B _ w hl (by omega) (fun x hx => by
    obtain ⟨i, hi, rfl⟩ := List.mem_map.1 hx
    have := hs i (List.mem_range.1 hi)
    exact (qf_isQ (by omega)).lt)
  rw [sumS_Q hK hs (fun i hi => by unfold fat; rw [List.getD_eq_getElem?_getD, range_get _ hi]; rfl)] at h
  exact h
theorem run_store_float (P : Program) (w : World) (a : Addr) (m : Mode) (k : FloatKind) (b : Nat) : (store a (.float k b) m).run P w = stored P w a (.float k b) m := run_store P w a _ m rfl
attribute [local go_sem] run_store_float
theorem oneF (b : Nat) : ∀ u ∈ [Value.float .f64 b], u.oneCell' = true := by intro u hu; simp at hu; subst hu; rfl
set_option maxRecDepth 100000 in
set_option maxHeartbeats 6400000 in
theorem StatsExact_walk (A : Option Addr) (N c : Nat) (f : Nat → Int) (by_ : Int) (w : World) (hA : IRow .i32 w w.heap.size A N f) (hf : ∀ i, i < N → (Lit.int .i32 (f i)).wf = true) (hN : N ≤ 35184372087808) (hby : (Lit.int .u16 by_).wf = true) (hp : Pow10 w) :
    Calls Tryd.prog 3 #[.slice A N c, .int .u16 by_] w fun e w' => e = .returned (.bool true) ∧ Below w.heap.size w w' := by
  obtain ⟨Y, rfl, hY⟩ : ∃ Y : Nat, by_ = (Y : Int) ∧ Y ≤ 65535 := by
    have := bounds_u16 hby
    exact ⟨by_.toNat, by omega, by omega⟩
  clear hby
  obtain ⟨iF, hiF, hzF0, hzF1, hzF2⟩ := info_parts infoF
  have HP := Lib.hid hp
  clear hp
  obtain ⟨K, hKN, hK1, hKK, hKL⟩ : ∃ K : Nat, K ≤ N ∧ K ≤ 1024 ∧ (∀ k, k ≤ K → ¬ (k < N ∧ k < 1024) → k = K) ∧ (∀ k, k < N → k < 1024 → k < K) := ⟨min N 1024, by omega, by omega, fun k h1 h2 => by omega, fun k h1 h2 => by omega⟩
  have HKK := Lib.hid hKK
  have HKL := Lib.hid hKL
  clear hKK hKL
  go_enter Tryd.func3, Tryd.ntmps3
  go_wp2_with (fail)
  go_loopw [5, 7, 8] (fun lv nv iv wr => ∃ k : Nat, k ≤ K ∧ iv = .int .i64 k ∧ nv = .int .i64 (sumN f k) ∧ wr.ownsRow w.heap.size 25 1 lv k (QL f k) ∧ Below w.heap.size w wr) (fun _ _ i _ => K - (intOf i).toNat)
  case atStart => exact ⟨0, Nat.zero_le _, rfl, rfl, ⟨rfl, .inl ⟨rfl, rfl⟩⟩, Below.refl _ _⟩
  case round =>
    obtain ⟨k, hk, rfl, rfl, hown, hb⟩ := hrel
    by_cases hkn : k < N
    · by_cases hk3 : k < 1024
      · have hk4 : (k : Int) < 1024 := by omega
        have hkK : k < K := HKL.out k hkn hk3
        obtain ⟨b, off, rfl, hbl, hc⟩ := hA (by omega)
        have hc0 := hc k hkn
        have hck : wr.cell? ⟨b, off + k, none⟩ = some (.int .i32 (f k)) := (hb.cell hbl).trans hc0
        have hq := bounds_i32 (hf k hkn)
        obtain ⟨hq0, hq1⟩ := hq
        have hsb := sumN_bd (f := f) (n := k) (fun i hi => by have := bounds_i32 (hf i (by omega)); omega) k (Nat.le_refl _)
        obtain ⟨hs0, hs1⟩ := hsb
        have hop : ∀ t w, (binOp .quo t (.float .f64 (floatOfInt .f64 (f k))) (.float .f64 4616189618054758400)).run Tryd.prog w = .ok (.float .f64 (qf (f k))) w := fun t w => run_float_arith w .quo t .f64 _ _ _ (div4_qf (by omega))
        have hnx : Hid (sumN f (k + 1) = sumN f k + f k) := Lib.hid rfl
        have hsn := Lib.hid (QL_snoc f k)
        have hbs := hb.size
        have hkb : (k + 1) * 8 ≤ 140737488355328 := by omega
        clear hc hA hf
        generalize hSg : sumN f k = S at *
        generalize hqg : f k = q at *
        clear hSg hqg
        have hSb0 : -2199023255552 ≤ S := by omega
        have hSb1 : S ≤ 2199023255552 := by omega
        clear hs0 hs1
        go_wp2_with ((at_builtin; refine wpList_append_one rfl _ _ 24 rfl w.heap.size 25 iF (.float .f64 0) 1 8 Tryd.underlying24 hiF hzF0 hzF1 hzF2 rfl (by decide) (by decide) u5 k (QL f k) rfl hown [.float .f64 (qf q)] rfl (oneF _) 25 1 rfl hkb hbs ?_; intro v1 w1 hown1 hbel1); have hck1 : w1.cell? ⟨b, off + k, none⟩ = some (.int .i32 q) := ((hbel1 _ _ hb (Nat.le_refl _)).cell hbl).trans hc0)
        go_roundw
        case rel => exact ⟨k + 1, by omega, by go_num, by rw [hnx.out], by rw [← hsn.out]; exact hown1, hbel1 _ _ hb (Nat.le_refl _)⟩
        case measure => simp [intOf]; omega
      · have hk4 : ¬ (k : Int) < 1024 := by omega
        have hkK := HKK.out k hk (by omega)
        clear HKK HKL
        subst hkK
        obtain ⟨A1, c1, rfl⟩ := own_form hown
        have hsm : Small f k := fun i hi => by have := bounds_i32 (hf i (by omega)); omega
        have hQ1 := (QRow.of_own hown).frow
        have hTb := sumN_bd hsm k (Nat.le_refl _)
        have hT0 : -2199023255552 ≤ sumN f k := by omega
        have hT1 : sumN f k ≤ 2199023255552 := by omega
        have hbs := hb.size
        clear hown hA hf hTb
        generalize hSg : sumN f k = S at *
        have HSg := Lib.hid hSg
        have HSM := Lib.hid hsm
        clear hSg hsm
        go_wp2_with (fail)
        obtain ⟨wA, rfl⟩ : ∃ wA : World, wA = wr := ⟨_, rfl⟩
        go_loopw [6, 9] (fun mv jv wr => ∃ j : Nat, j ≤ k ∧ jv = .int .i64 j ∧ wr.ownsRow wA.heap.size 25 1 mv j (QL (fun i => f ((i + Y) % k)) j) ∧ Below wA.heap.size wA wr) (fun _ jv _ => k - (intOf jv).toNat)
        case atStart => exact ⟨0, Nat.zero_le _, rfl, ⟨rfl, .inl ⟨rfl, rfl⟩⟩, Below.refl _ _⟩
        case round =>
          obtain ⟨j, hj, rfl, hown2, hbw⟩ := hrel
          by_cases hjK : j < k
          · obtain ⟨b1, off1, rfl, hbl1, hc1⟩ := (hQ1.below hbw).2 (by omega)
            have hmod : (j + Y) % k < k := Nat.mod_lt _ (by omega)
            have hc2 := hc1 _ hmod
            have hfe : fat ((List.range k).map fun i => qf (f i)) ((j + Y) % k) = qf (f ((j + Y) % k)) := by unfold fat; rw [List.getD_eq_getElem?_getD, range_get _ hmod]; rfl
            rw [hfe] at hc2
            have hi2 : ((j : Int) + (Y : Int)) % (k : Int) = (((j + Y) % k : Nat) : Int) := by rw [Int.natCast_emod, Int.natCast_add]
            have hsn := Lib.hid (QL_snoc (fun i => f ((i + Y) % k)) j)
            have hkb2 : (j + 1) * 8 ≤ 140737488355328 := by omega
            have hws := hbw.size
            have HB := Lib.hid hb
            clear hc1 hfe hQ1 hb
            generalize hqg : f ((j + Y) % k) = q at *
            have Hqg := Lib.hid hqg
            clear hqg
            generalize (j + Y) % k = t at *
            go_wp2_with (at_builtin; refine wpList_append_one rfl _ _ 24 rfl wA.heap.size 25 iF (.float .f64 0) 1 8 Tryd.underlying24 hiF hzF0 hzF1 hzF2 rfl (by decide) (by decide) u6 j (QL (fun i => f ((i + Y) % k)) j) rfl hown2 [.float .f64 (qf q)] rfl (oneF _) 25 1 rfl hkb2 hws ?_; intro v2 w2 hown2' hbel2)
            go_roundw
            case rel => exact ⟨j + 1, by omega, by go_num, by rw [← hsn.out]; exact hown2', hbel2 _ _ hbw (Nat.le_refl _)⟩
            case measure => simp [intOf]; omega
          · obtain rfl : j = k := by omega
            obtain ⟨A2, c2, rfl⟩ := own_form hown2
            have hQ2 := QRow.of_own hown2
            have hS2 : sumN (fun i => f ((i + Y) % j)) j = S := by rw [sumN_rot]; exact HSg.out
            have hsm2 : Small (fun i => f ((i + Y) % j)) j := fun i hi => HSM.out _ (Nat.mod_lt _ (by omega))
            have hop : ∀ t w, (binOp .quo t (.float .f64 (floatOfInt .f64 S)) (.float .f64 4616189618054758400)).run Tryd.prog w = .ok (.float .f64 (qf S)) w := fun t w => run_float_arith w .quo t .f64 _ _ _ (div4_qf (by omega))
            have hfq : feq (qf S) (qf S) = true := by rw [feq_self, (qf_isQ (n := S) (by omega)).nan]; rfl
            clear hown2
            go_wp2_with (fail)
            obtain ⟨wB, rfl⟩ : ∃ wB : World, wB = wr := ⟨_, rfl⟩
            go_loopw [10] (fun iv wr => ∃ (i : Nat) (D : Nat → Int), i ≤ j / 2 ∧ iv = .int .i64 i ∧ QRow wr wA.heap.size A2 j D ∧ Hid (sumN D j = S) ∧ Small D j ∧ Below wA.heap.size wA wr) (fun iv _ => j - (intOf iv).toNat)
            case atStart => exact ⟨0, _, Nat.zero_le _, rfl, hQ2, Lib.hid hS2, hsm2, hbw⟩
            case round =>
              obtain ⟨i, D, hi, rfl, hD, HDS, hDs, hbt⟩ := hrel
              by_cases hij : i < j / 2
              · have hij2 : (i : Int) < (j : Int) / 2 := by omega
                by_cases hY2 : Y % 2 = 1
                · have hpar : ((Y : Int) % 2 == 1) = true := by rw [beq_iff_eq]; omega
                  obtain ⟨b2, off2, rfl, hB2, hbl2, hc2⟩ := hD (by omega)
                  obtain ⟨t, ht⟩ : ∃ t, t = j - 1 - i := ⟨_, rfl⟩
                  have ht2 : (j : Int) - 1 - (i : Int) = (t : Int) := by omega
                  have htj : t < j := by omega
                  have hti : i ≠ t := by omega
                  have ci := (hc2 i (by omega)).1
                  have cj := (hc2 t htj).1
                  have fi := (hc2 i (by omega)).2
                  have fj := (hc2 t htj).2
                  have HT := Lib.hid ht
                  have HY2 := Lib.hid hY2
                  clear hc2 ht hQ2 hS2 hsm2 HSM hQ1 hY2
                  have hDx := fun q => hD.swap (q := q) (i := i) (j := t) (by omega) htj hti
                  have HDx := Lib.hid hDx
                  have HD := Lib.hid hD
                  have HDs := Lib.hid hDs
                  clear hDx hD hDs
                  generalize hDi : D i = di at *
                  generalize hDt : D t = dt at *
                  have Hi := Lib.hid hDi
                  have Ht := Lib.hid hDt
                  clear hDi hDt
                  go_wp2_with (fail)
                  go_region
                  all_goals go_wp2
                  go_roundw
                  case rel =>
                    refine ⟨i + 1, swpF D i t, by omega, by go_num, ?_, Lib.hid (by rw [sumN_swp D (by omega) htj hti]; exact HDS.out), swpF_small HDs.out (by omega) htj, ((below_drewN hbt 1).setCell (p := ⟨b2, _, none⟩) hB2 _).setCell (p := ⟨b2, _, none⟩) hB2 _⟩
                    exact HDx.out 1
                  case measure => simp [intOf]; omega
                · have hpar : ((Y : Int) % 2 == 1) = false := by rw [beq_eq_false_iff_ne]; omega
                  go_wp2_with (fail)
                  go_roundw
                  case rel => exact ⟨i + 1, D, by omega, by go_num, hD, HDS, hDs, hbt⟩
                  case measure => simp [intOf]; omega
              · have hij2 : ¬ (i : Int) < (j : Int) / 2 := by omega
                have hL := hQ1.below hbt
                have hM := hD.frow
                have HL := Lib.hid hL
                have HM := Lib.hid hM
                have HDs := Lib.hid hDs
                clear hL hM hDs hQ1 hQ2 hD hS2 hsm2
                have SL := sumQ_any j c1 _ A1 f wr HL.out hK1 HSM.out
                rw [HSg.out] at SL
                have SM := fun d => (sumQ_any j c2 _ A2 D (wr.drewN d) (HM.out.drewN d) hK1 HDs.out)
                rw [HDS.out] at SM
                have SL2 := Lib.hid SL
                have SM2 := Lib.hid SM
                have hBT := Lib.hid (hb.trans (hbt.mono hbs))
                clear SL SM hb hbt
                go_wp2_with (fail)
                refine SL2.out.mono ?_
                rintro e w' ⟨rfl, d1, rfl⟩
                go_wp2_with (fail)
                refine (SM2.out _).mono ?_
                rintro e w' ⟨rfl, d2, rfl⟩
                go_wp2_with (fail)
                refine (awake_any _ (HP.out.below (below_drewN hBT.out _))).mono ?_
                rintro e w' ⟨rfl, hba⟩
                go_wp2
                go_ret
                exact ⟨rfl, (below_drewN hBT.out _).trans (hba.mono (below_drewN hBT.out 0).size)⟩
    · have hkK := HKK.out k hk (by omega)
      clear HKK HKL
      subst hkK
      obtain ⟨A1, c1, rfl⟩ := own_form hown
      have hsm : Small f k := fun i hi => by have := bounds_i32 (hf i (by omega)); omega
      have hQ1 := (QRow.of_own hown).frow
      have hTb := sumN_bd hsm k (Nat.le_refl _)
      have hT0 : -2199023255552 ≤ sumN f k := by omega
      have hT1 : sumN f k ≤ 2199023255552 := by omega
      have hbs := hb.size
      clear hown hA hf hTb
      generalize hSg : sumN f k = S at *
      have HSg := Lib.hid hSg
      have HSM := Lib.hid hsm
      clear hSg hsm
      go_wp2_with (fail)
      obtain ⟨wA, rfl⟩ : ∃ wA : World, wA = wr := ⟨_, rfl⟩
      go_loopw [6, 9] (fun mv jv wr => ∃ j : Nat, j ≤ k ∧ jv = .int .i64 j ∧ wr.ownsRow wA.heap.size 25 1 mv j (QL (fun i => f ((i + Y) % k)) j) ∧ Below wA.heap.size wA wr) (fun _ jv _ => k - (intOf jv).toNat)
      case atStart => exact ⟨0, Nat.zero_le _, rfl, ⟨rfl, .inl ⟨rfl, rfl⟩⟩, Below.refl _ _⟩
      case round =>
        obtain ⟨j, hj, rfl, hown2, hbw⟩ := hrel
        by_cases hjK : j < k
        · obtain ⟨b1, off1, rfl, hbl1, hc1⟩ := (hQ1.below hbw).2 (by omega)
          have hmod : (j + Y) % k < k := Nat.mod_lt _ (by omega)
          have hc2 := hc1 _ hmod
          have hfe : fat ((List.range k).map fun i => qf (f i)) ((j + Y) % k) = qf (f ((j + Y) % k)) := by unfold fat; rw [List.getD_eq_getElem?_getD, range_get _ hmod]; rfl
          rw [hfe] at hc2
          have hi2 : ((j : Int) + (Y : Int)) % (k : Int) = (((j + Y) % k : Nat) : Int) := by rw [Int.natCast_emod, Int.natCast_add]
          have hsn := Lib.hid (QL_snoc (fun i => f ((i + Y) % k)) j)
          have hkb2 : (j + 1) * 8 ≤ 140737488355328 := by omega
          have hws := hbw.size
          have HB := Lib.hid hb
          clear hc1 hfe hQ1 hb
          generalize hqg : f ((j + Y) % k) = q at *
          have Hqg := Lib.hid hqg
          clear hqg
          generalize (j + Y) % k = t at *
          go_wp2_with (at_builtin; refine wpList_append_one rfl _ _ 24 rfl wA.heap.size 25 iF (.float .f64 0) 1 8 Tryd.underlying24 hiF hzF0 hzF1 hzF2 rfl (by decide) (by decide) u6 j (QL (fun i => f ((i + Y) % k)) j) rfl hown2 [.float .f64 (qf q)] rfl (oneF _) 25 1 rfl hkb2 hws ?_; intro v2 w2 hown2' hbel2)
          go_roundw
          case rel => exact ⟨j + 1, by omega, by go_num, by rw [← hsn.out]; exact hown2', hbel2 _ _ hbw (Nat.le_refl _)⟩
          case measure => simp [intOf]; omega
        · obtain rfl : j = k := by omega
          obtain ⟨A2, c2, rfl⟩ := own_form hown2
          have hQ2 := QRow.of_own hown2
          have hS2 : sumN (fun i => f ((i + Y) % j)) j = S := by rw [sumN_rot]; exact HSg.out
          have hsm2 : Small (fun i => f ((i + Y) % j)) j := fun i hi => HSM.out _ (Nat.mod_lt _ (by omega))
          have hop : ∀ t w, (binOp .quo t (.float .f64 (floatOfInt .f64 S)) (.float .f64 4616189618054758400)).run Tryd.prog w = .ok (.float .f64 (qf S)) w := fun t w => run_float_arith w .quo t .f64 _ _ _ (div4_qf (by omega))
          have hfq : feq (qf S) (qf S) = true := by rw [feq_self, (qf_isQ (n := S) (by omega)).nan]; rfl
          clear hown2
          go_wp2_with (fail)
          obtain ⟨wB, rfl⟩ : ∃ wB : World, wB = wr := ⟨_, rfl⟩
          go_loopw [10] (fun iv wr => ∃ (i : Nat) (D : Nat → Int), i ≤ j / 2 ∧ iv = .int .i64 i ∧ QRow wr wA.heap.size A2 j D ∧ Hid (sumN D j = S) ∧ Small D j ∧ Below wA.heap.size wA wr) (fun iv _ => j - (intOf iv).toNat)
          case atStart => exact ⟨0, _, Nat.zero_le _, rfl, hQ2, Lib.hid hS2, hsm2, hbw⟩
          case round =>
            obtain ⟨i, D, hi, rfl, hD, HDS, hDs, hbt⟩ := hrel
            by_cases hij : i < j / 2
            · have hij2 : (i : Int) < (j : Int) / 2 := by omega
              by_cases hY2 : Y % 2 = 1
              · have hpar : ((Y : Int) % 2 == 1) = true := by rw [beq_iff_eq]; omega
                obtain ⟨b2, off2, rfl, hB2, hbl2, hc2⟩ := hD (by omega)
                obtain ⟨t, ht⟩ : ∃ t, t = j - 1 - i := ⟨_, rfl⟩
                have ht2 : (j : Int) - 1 - (i : Int) = (t : Int) := by omega
                have htj : t < j := by omega
                have hti : i ≠ t := by omega
                have ci := (hc2 i (by omega)).1
                have cj := (hc2 t htj).1
                have fi := (hc2 i (by omega)).2
                have fj := (hc2 t htj).2
                have HT := Lib.hid ht
                have HY2 := Lib.hid hY2
                clear hc2 ht hQ2 hS2 hsm2 HSM hQ1 hY2
                have hDx := fun q => hD.swap (q := q) (i := i) (j := t) (by omega) htj hti
                have HDx := Lib.hid hDx
                have HD := Lib.hid hD
                have HDs := Lib.hid hDs
                clear hDx hD hDs
                generalize hDi : D i = di at *
                generalize hDt : D t = dt at *
                have Hi := Lib.hid hDi
                have Ht := Lib.hid hDt
                clear hDi hDt
                go_wp2_with (fail)
                go_region
                all_goals go_wp2
                go_roundw
                case rel =>
                  refine ⟨i + 1, swpF D i t, by omega, by go_num, ?_, Lib.hid (by rw [sumN_swp D (by omega) htj hti]; exact HDS.out), swpF_small HDs.out (by omega) htj, ((below_drewN hbt 1).setCell (p := ⟨b2, _, none⟩) hB2 _).setCell (p := ⟨b2, _, none⟩) hB2 _⟩
                  exact HDx.out 1
                case measure => simp [intOf]; omega
              · have hpar : ((Y : Int) % 2 == 1) = false := by rw [beq_eq_false_iff_ne]; omega
                go_wp2_with (fail)
                go_roundw
                case rel => exact ⟨i + 1, D, by omega, by go_num, hD, HDS, hDs, hbt⟩
                case measure => simp [intOf]; omega
            · have hij2 : ¬ (i : Int) < (j : Int) / 2 := by omega
              have hL := hQ1.below hbt
              have hM := hD.frow
              have HL := Lib.hid hL
              have HM := Lib.hid hM
              have HDs := Lib.hid hDs
              clear hL hM hDs hQ1 hQ2 hD hS2 hsm2
              have SL := sumQ_any j c1 _ A1 f wr HL.out hK1 HSM.out
              rw [HSg.out] at SL
              have SM := fun d => (sumQ_any j c2 _ A2 D (wr.drewN d) (HM.out.drewN d) hK1 HDs.out)
              rw [HDS.out] at SM
              have SL2 := Lib.hid SL
              have SM2 := Lib.hid SM
              have hBT := Lib.hid (hb.trans (hbt.mono hbs))
              clear SL SM hb hbt
              go_wp2_with (fail)
              refine SL2.out.mono ?_
              rintro e w' ⟨rfl, d1, rfl⟩
              go_wp2_with (fail)
              refine (SM2.out _).mono ?_
              rintro e w' ⟨rfl, d2, rfl⟩
              go_wp2_with (fail)
              refine (awake_any _ (HP.out.below (below_drewN hBT.out _))).mono ?_
              rintro e w' ⟨rfl, hba⟩
              go_wp2
              go_ret
              exact ⟨rfl, (below_drewN hBT.out _).trans (hba.mono (below_drewN hBT.out 0).size)⟩

end Go.Proofs.YtjcgachdnkdamaaDoor
