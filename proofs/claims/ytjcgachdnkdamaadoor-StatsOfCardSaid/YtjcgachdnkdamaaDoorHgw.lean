/- The walks of the two Histograms and of the law on them. Conditions: lists of less than 2^45 floats; the library's table of powers of ten lies as its text lays it. -/
import Derived.Test.YtjcgachdnkdamaaDoorStt
import Derived.Test.YtjcgachdnkdamaaDoorHgp
import Derived.Test.YtjcgachdnkdamaaDoorShelfc
import Derived.BigRegion
import Derived.BigQuiet
import Derived.IntWalk
import Derived.RegionTactic
import Derived.Deep.RegionWith
import Derived.Laws.MakeOwn
import Derived.Laws.OwnMore
namespace Go.Proofs.YtjcgachdnkdamaaDoor
open Go.RowKit Flt Go.Mem Go.Lib

set_option maxHeartbeats 1600000
theorem rcompare_any (a b : Nat) (w : World) : Calls Tryd.prog 43 #[.float .f64 a, .float .f64 b] w fun e w' => e = .returned (.int .i64 (cmpI a b)) ∧ w' = w := by
  cases ha : isnan a <;> cases hb : isnan b
  all_goals
    go_enter Tryd.func43, Tryd.ntmps43
    go_wp2_with (go_at_call 60; refine (rnan_any _ _).mono ?_; rintro e w' ⟨rfl, rfl⟩)
    all_goals
      go_ret
      refine ⟨ret_int ?_, rfl⟩
      unfold cmpI; simp [*]
theorem infoF2 : (Tryd.prog.info? 25).map (fun i => (i.zero, i.size, i.bytes)) = some (some (.float .f64 0), 1, 8) := by kernel_rfl
theorem infoI2 : (Tryd.prog.info? 3).map (fun i => (i.zero, i.size, i.bytes)) = some (some (.int .i64 0), 1, 8) := by kernel_rfl
theorem FRow.of_own {w : World} {base n c : Nat} {e : TypeId} {A : Option Addr} {l : List Nat} (h : w.ownsRow base e 1 (.slice A n c) n (l.map (.float .f64))) : FRow w w.heap.size A n l := FRow.of_row (Row.of_own h)
theorem own_any (A : Option Addr) (n c : Nat) (l : List Nat) (w : World) (hl : FRow w w.heap.size A n l) (hn : n * 8 ≤ 140737488355328) :
    Calls Tryd.prog 17 #[.slice A n c] w fun e w' => ∃ A' c', e = .returned (.slice A' n c') ∧ FRow w' w'.heap.size A' n l ∧ Below w.heap.size w w' := by
  obtain ⟨iF, hiF, hzF0, hzF1, hzF2⟩ := info_parts infoF2
  have h63 : 0 + n ≤ maxLen := by unfold maxLen; omega
  have hby : (0 + n) * 8 ≤ 140737488355328 := by omega
  have hone : ∀ u ∈ l.map (Value.float .f64), u.oneCell' = true := by
    intro u hu; obtain ⟨x, _, rfl⟩ := List.mem_map.1 hu; rfl
  have hr := hl.to_row
  go_enter Tryd.func17, Tryd.ntmps17
  go_wp2_with (at_builtin; refine wpList_append_row _ rfl (.tmp 4) (.tmp 5) _ rfl w.heap.size 25 iF (.float .f64 0) 1 8 Tryd.underlying24 hiF hzF0 hzF1 hzF2 rfl (by decide) (.slice none 0 0) 0 [] rfl ⟨rfl, .inl ⟨rfl, rfl⟩⟩ w.heap.size A n c (l.map (Value.float .f64)) rfl hr hone h63 hby (Nat.le_refl _) ?_; intro v1 w1 hown1 hg1; have hbw1 : Below w.heap.size w w1 := (Below.refl _ _).grown hg1 (Nat.le_refl _) (by simp [Value.ownBlock]))
  rw [Nat.zero_add, List.nil_append] at hown1
  obtain ⟨A1, c1, rfl⟩ := own_form hown1
  clear hg1 hr hone hiF hzF0 hzF1 hzF2
  go_wp2
  go_ret
  exact ⟨_, _, rfl, FRow.of_own hown1, hbw1⟩
theorem hasNaN_any (A : Option Addr) (n c B : Nat) (l : List Nat) (w : World) (hl : FRow w B A n l) (hn : n ≤ 9223372036854775806) :
    Calls Tryd.prog 44 #[.slice A n c] w fun e w' => e = .returned (.bool (nanIn l n)) ∧ w' = w := by
  go_enter Tryd.func44, Tryd.ntmps44
  go_wp2
  go_loop [3] (fun i => ∃ k : Nat, k ≤ n ∧ i = .int .i64 k ∧ ∀ j, j < k → isnan (fat l j) = false) (fun i => n - (intOf i).toNat)
  case atStart => exact ⟨0, Nat.zero_le _, rfl, fun j hj => absurd hj (Nat.not_lt_zero _)⟩
  case round =>
    obtain ⟨k, hk, rfl, hno⟩ := hrel
    by_cases hkn : k < n
    · obtain ⟨b, off, rfl, _, hc⟩ := hl.2 (by omega)
      have hck := hc k hkn
      have HNO := Lib.hid hno
      clear hc hl hno
      cases hx : isnan (fat l k)
      · go_wp2_with (go_at_call 28; refine (isnan_any _ _).mono ?_; rintro e w' ⟨rfl, rfl⟩)
        go_round
        case rel => exact ⟨k + 1, by omega, by go_num, fun j hj => by
          by_cases hjk : j = k
          · subst hjk; exact hx
          · exact HNO.out j (by omega)⟩
        case measure => simp [intOf]; omega
      · go_wp2_with (go_at_call 28; refine (isnan_any _ _).mono ?_; rintro e w' ⟨rfl, rfl⟩)
        go_ret
        exact ⟨ret_bool (nanIn_yes hkn hx).symm, rfl⟩
    · obtain rfl : k = n := by omega
      have hno2 := nanIn_no hno
      clear hl hno
      go_wp2
      go_ret
      exact ⟨rfl, rfl⟩
theorem isnan_ext : ∀ args w, (callFunc 28 args).run Tryd.prog w = .ok (.enter 28 args) w := by intro args w; rfl
theorem contains_any (A : Option Addr) (n c : Nat) (l : List Nat) (w : World) (hl : FRow w w.heap.size A n l) (hn : n ≤ 9223372036854775806) :
    Calls Tryd.prog 42 #[.slice A n c, .func (.func 28) #[] #[]] w fun e w' => e = .returned (.bool (nanIn l n)) ∧ ∃ q, w' = w.drewN q := by
  by_cases h0 : n = 0
  · subst h0
    exact (Tryd.slices_ContainsFunc_empty (α := Nat) A c _ w).mono fun e w' h => ⟨h.1, 0, h.2⟩
  · obtain ⟨b, off, rfl, _, hc⟩ := hl.2 (by omega)
    have h := Tryd.slices_ContainsFunc (α := Nat) (.float .f64) isnan 28 #[] isnan_ext b off n c ((List.range n).map (fat l)) w
      (fun W x hB => (isnan_any x W).mono fun e w' h => ⟨h.1, 0, h.2⟩) (by simp) (by omega) (fun j hj => by
        have hj2 : j < n := by simpa using hj
        rw [hc j hj2]
        congr 2
        rw [getElem!_pos _ j hj]; simp)
    rw [List.take_of_length_le (by simp)] at h
    exact h
theorem made_row (w : World) (n : Nat) (hn : 8 * (n + 1) ≤ 281474976710656) : ∃ w', (Instr.makeSlice 34 (.int .i64 ((n : Int) + 1)) (.int .i64 ((n : Int) + 1))).run Tryd.prog w = .ok (.slice (some ⟨w.heap.size, 0, none⟩) (n + 1) (n + 1)) w' ∧ NRow w' w.heap.size (some ⟨w.heap.size, 0, none⟩) (n + 1) (fun _ => 0) ∧ Below w.heap.size w w' := by
  obtain ⟨iI, hiI, hz0, hz1, hz2⟩ := info_parts infoI2
  obtain ⟨w', hr, hown, hg⟩ := run_make_full w w.heap.size 34 3 iI (.int .i64 0) 1 Tryd.underlying34 hiI hz0 hz1 .i64 .i64 (n + 1) (by rw [hz2]; exact hn) (by unfold maxLen; omega) (Nat.le_refl _)
  refine ⟨w', by simpa using hr, ?_, (Below.refl _ _).grown hg (Nat.le_refl _) (by simp)⟩
  have e : (madeCells (Value.int .i64 0).cells ((n + 1) * 1)).toList = List.replicate (n + 1) (.int .i64 0) := by
    unfold madeCells
    apply List.ext_getElem?
    intro i
    by_cases hi : i < n + 1
    · simp [Value.cells, hi, Nat.mod_one]
    · simp [Value.cells, hi]
  rw [e] at hown
  exact NRow.made hown rfl
theorem isnan_no {b : Nat} (h : isnan b = false) (w : World) : Calls Tryd.prog 28 #[.float .f64 b] w fun e w' => e = .returned (.bool false) ∧ w' = w := by have := isnan_any b w; rw [h] at this; exact this
theorem isnan_yes {b : Nat} (h : isnan b = true) (w : World) : Calls Tryd.prog 28 #[.float .f64 b] w fun e w' => e = .returned (.bool true) ∧ w' = w := by have := isnan_any b w; rw [h] at this; exact this
theorem not_gef {x b : Nat} (hx : isnan x = false) (hb : isnan b = false) : (!decide (0 ≤ cmpI x b)) = !gef x b := by rw [gef_cmp hx hb]
/-- what a Histogram answers -/
def HistR (w w' : World) (m n : Nat) (xs bs : List Nat) (e : Ending) : Prop :=
  Below w.heap.size w w' ∧ ((badTo bs n = true ∧ e = .returned (.tuple #[.slice none 0 0, .int .i64 1])) ∨ (badTo bs n = false ∧ nanIn xs m = true ∧ e = .returned (.tuple #[.slice none 0 0, .int .i64 10])) ∨
    (badTo bs n = false ∧ nanIn xs m = false ∧ ∃ A, e = .returned (.tuple #[.slice A (n + 1) (n + 1), .int .i64 0]) ∧ NRow w' w.heap.size A (n + 1) (histF xs bs n m)))
theorem hist_any (A1 A2 : Option Addr) (m n c1 c2 : Nat) (xs bs : List Nat) (w : World) (hx : FRow w w.heap.size A1 m xs) (hb : FRow w w.heap.size A2 n bs) (hm : m ≤ 4611686018427387904) (hn : 8 * (n + 1) ≤ 281474976710656) :
    Calls Tryd.prog 16 #[.slice A1 m c1, .slice A2 n c2] w fun e w' => HistR w w' m n xs bs e := by
  go_enter Tryd.func16, Tryd.ntmps16
  go_wp2
  go_loop [14] (fun i => ∃ k : Nat, k ≤ n ∧ i = .int .i64 k ∧ ∀ j, j < k → badAt bs j = false) (fun i => n - (intOf i).toNat)
  case atStart => exact ⟨0, Nat.zero_le _, rfl, fun j hj => absurd hj (Nat.not_lt_zero _)⟩
  case round =>
    obtain ⟨k, hk, rfl, hno⟩ := hrel
    by_cases hkn : k < n
    · obtain ⟨b, off, rfl, _, hc⟩ := hb.2 (by omega)
      have hck := hc k hkn
      have HNO := Lib.hid hno
      have HX := Lib.hid hx
      clear hno hx hb
      cases hbad : badAt bs k
      · have hnn : isnan (fat bs k) = false := by unfold badAt at hbad; simp at hbad; exact hbad.1
        by_cases hk0 : 0 < k
        · obtain ⟨t, ht⟩ : ∃ t, t = k - 1 := ⟨_, rfl⟩
          have ht2 : (k : Int) - 1 = (t : Int) := by omega
          have htn : t < n := by omega
          have hct := hc t htn
          have hle : (flt (fat bs k) (fat bs t) || feq (fat bs k) (fat bs t)) = false := by
            unfold badAt at hbad; rw [← ht] at hbad; simp only [hnn, hk0, decide_true, Bool.false_or, Bool.true_and] at hbad; exact hbad
          have HB := Lib.hid hbad
          have HT := Lib.hid ht
          clear hc hbad ht
          go_wp2_with (go_at_call 28; refine (isnan_any _ _).mono ?_; rintro e w' ⟨rfl, rfl⟩)
          go_round
          case rel => exact ⟨k + 1, by omega, by go_num, fun j hj => by
            by_cases hjk : j = k
            · subst hjk; exact HB.out
            · exact HNO.out j (by omega)⟩
          case measure => simp [intOf]; omega
        · have HB := Lib.hid hbad
          obtain rfl : k = 0 := by omega
          have hck0 : w.cell? ⟨b, off, none⟩ = some (.float .f64 (fat bs 0)) := hck
          clear hc hbad hck
          go_wp2_with (go_at_call 28; refine (isnan_any _ _).mono ?_; rintro e w' ⟨rfl, rfl⟩)
          go_round
          case rel => exact ⟨1, by omega, by go_num, fun j hj => by
            obtain rfl : j = 0 := by omega
            exact HB.out⟩
          case measure => simp [intOf]; omega
      · have hyes := badTo_yes hkn hbad
        cases hnn : isnan (fat bs k)
        · have hbad2 := hbad
          unfold badAt at hbad2
          rw [hnn] at hbad2
          simp only [Bool.false_or, Bool.and_eq_true, decide_eq_true_eq] at hbad2
          obtain ⟨hk0, hle0⟩ := hbad2
          obtain ⟨t, ht⟩ : ∃ t, t = k - 1 := ⟨_, rfl⟩
          have ht2 : (k : Int) - 1 = (t : Int) := by omega
          have htn : t < n := by omega
          have hct := hc t htn
          have hle : (flt (fat bs k) (fat bs t) || feq (fat bs k) (fat bs t)) = true := by rw [← ht] at hle0; exact hle0
          have HB := Lib.hid hbad
          have HT := Lib.hid ht
          have HY := Lib.hid hyes
          clear hc hbad ht hle0 hyes
          go_wp2_with (go_at_call 28; refine (isnan_any _ _).mono ?_; rintro e w' ⟨rfl, rfl⟩)
          go_ret2
          exact ⟨Below.refl _ _, .inl ⟨HY.out, rfl⟩⟩
        · have HB := Lib.hid hbad
          have HY := Lib.hid hyes
          clear hc hbad hyes
          go_wp2_with (go_at_call 28; refine (isnan_any _ _).mono ?_; rintro e w' ⟨rfl, rfl⟩)
          go_ret2
          exact ⟨Below.refl _ _, .inl ⟨HY.out, rfl⟩⟩
    · obtain rfl : k = n := by omega
      have hbt := badTo_no hno
      have HBT := Lib.hid hbt
      have hct := contains_any A1 m c1 xs w hx (by omega)
      have HMD := Lib.hid (fun w' => made_row w' k hn)
      clear hno hbt
      cases hnan : nanIn xs m
      · rw [hnan] at hct
        have HCT := Lib.hid hct
        have HNN := Lib.hid hnan
        clear hct hnan
        go_wp2_with (go_at_call 42; refine HCT.out.mono ?_; rintro e w' ⟨rfl, q, rfl⟩; obtain ⟨wM, hmk, hNM, hbM⟩ := HMD.out (w.drewN q))
        clear hmk HMD HCT
        have hbN : Below w.heap.size w wM := (below_drewN (Below.refl _ _) q).trans hbM
        replace hNM : NRow wM w.heap.size (some ⟨w.heap.size, 0, none⟩) (k + 1) (histF xs bs k 0) := hNM
        clear hbM
        go_loopw [43] (fun iv wr => ∃ t : Nat, t ≤ m ∧ iv = .int .i64 t ∧ NRow wr w.heap.size (some ⟨w.heap.size, 0, none⟩) (k + 1) (histF xs bs k t) ∧ Below w.heap.size w wr) (fun iv _ => m - (intOf iv).toNat)
        case atStart => exact ⟨0, Nat.zero_le _, rfl, hNM, hbN⟩
        case round =>
          obtain ⟨t, ht, rfl, hNt, hbt⟩ := hrel
          by_cases htm : t < m
          · obtain ⟨b1, off1, rfl, _, hc1⟩ := (hx.below hbt).2 (by omega)
            have hct1 := hc1 t htm
            have hP := posF_le (fat xs t) bs k
            have hbd := histF_bd xs bs k t (posF (fat xs t) bs k)
            obtain ⟨b2, off2, hA2, hB2, hl2, hcN⟩ := hNt (Nat.succ_pos _)
            simp only [Option.some.injEq, Addr.mk.injEq] at hA2
            obtain ⟨rfl, rfl, _⟩ := hA2
            have hcP := (hcN (posF (fat xs t) bs k) (by omega)).1
            have hfP := (hcN (posF (fat xs t) bs k) (by omega)).2
            have hput := hNt.put (i := posF (fat xs t) bs k) (by omega) (histF xs bs k t (posF (fat xs t) bs k) + 1)
            rw [Nat.zero_add] at hcP hfP hput
            have HPUT := Lib.hid hput
            have hbb := hb.below hbt
            clear hcN hput hc1 hNM hbN hNt hx hb
            obtain ⟨wA, rfl⟩ : ∃ wA : World, wA = wr := ⟨_, rfl⟩
            go_wp2_with (fail)
            go_loop [11] (fun kv => ∃ j : Nat, j ≤ k ∧ kv = .int .i64 j ∧ Hid (posG (fun i => gef (fat xs t) (fat bs i)) (k - j) j = posF (fat xs t) bs k)) (fun kv => k - (intOf kv).toNat)
            case atStart => exact ⟨0, Nat.zero_le _, rfl, Lib.hid rfl⟩
            case round =>
              obtain ⟨j, hj, rfl, HJ⟩ := hrel
              by_cases hjk : j < k
              · obtain ⟨b3, off3, rfl, _, hc3⟩ := hbb.2 (by omega)
                have hcj := hc3 j hjk
                clear hc3 hbb
                cases hg : (fgt (fat xs t) (fat bs j) || feq (fat xs t) (fat bs j))
                · have hjP : posF (fat xs t) bs k = j := by rw [← HJ.out]; exact posG_stop hjk hg
                  rw [hjP] at hcP hfP HPUT hbd hP
                  generalize hhv : histF xs bs k t j = hv at *
                  have HHV := Lib.hid hhv
                  have HJP := Lib.hid hjP
                  clear hhv hjP
                  go_wp2_with (fail)
                  go_roundw
                  case rel =>
                    refine ⟨t + 1, by omega, by go_num, ?_, hbt.setCell (p := ⟨w.heap.size, _, none⟩) (Nat.le_refl _) _⟩
                    have e : histF xs bs k (t + 1) = upd (histF xs bs k t) j (hv + 1) := by
                      show upd _ (posF (fat xs t) bs k) (histF xs bs k t (posF (fat xs t) bs k) + 1) = _
                      rw [HJP.out, HHV.out]
                    rw [e]
                    exact HPUT.out
                  case measure => simp [intOf]; omega
                · have hnx := posG_go (g := fun i => gef (fat xs t) (fat bs i)) hjk hg
                  have HNX := Lib.hid (hnx.symm.trans HJ.out)
                  clear hnx
                  go_wp2_with (fail)
                  go_round
                  case rel => exact ⟨j + 1, by omega, by go_num, HNX⟩
                  case measure => simp [intOf]; omega
              · obtain rfl : j = k := by omega
                have hjP : posF (fat xs t) bs j = j := by rw [← HJ.out]; rw [Nat.sub_self]; rfl
                rw [hjP] at hcP hfP HPUT hbd hP
                generalize hhv : histF xs bs j t j = hv at *
                have HHV := Lib.hid hhv
                have HJP := Lib.hid hjP
                clear hhv hjP
                clear hbb
                go_wp2_with (fail)
                go_roundw
                case rel =>
                  refine ⟨t + 1, by omega, by go_num, ?_, hbt.setCell (p := ⟨w.heap.size, _, none⟩) (Nat.le_refl _) _⟩
                  have e : histF xs bs j (t + 1) = upd (histF xs bs j t) j (hv + 1) := by
                    show upd _ (posF (fat xs t) bs j) (histF xs bs j t (posF (fat xs t) bs j) + 1) = _
                    rw [HJP.out, HHV.out]
                  rw [e]
                  exact HPUT.out
                case measure => simp [intOf]; omega
          · obtain rfl : t = m := by omega
            have HNt := Lib.hid hNt
            have Hbt := Lib.hid hbt
            clear hNt hbt hNM hbN hx hb
            go_wp2_with (fail)
            go_ret2
            exact ⟨Hbt.out, .inr (.inr ⟨HBT.out, HNN.out, _, rfl, HNt.out⟩)⟩
      · rw [hnan] at hct
        have HCT := Lib.hid hct
        have HNN := Lib.hid hnan
        clear hct hnan
        go_wp2_with (go_at_call 42; refine HCT.out.mono ?_; rintro e w' ⟨rfl, q, rfl⟩)
        go_ret2
        exact ⟨below_drewN (Below.refl _ _) _, .inr (.inl ⟨HBT.out, HNN.out, rfl⟩)⟩
theorem rhist_any (A1 A2 : Option Addr) (m n c1 c2 : Nat) (xs bs : List Nat) (w : World) (hx : FRow w w.heap.size A1 m xs) (hb : FRow w w.heap.size A2 n bs) (hm : m ≤ 4611686018427387904) (hn : 8 * (n + 1) ≤ 281474976710656) :
    Calls Tryd.prog 18 #[.slice A1 m c1, .slice A2 n c2] w fun e w' => HistR w w' m n xs bs e := by
  go_enter Tryd.func18, Tryd.ntmps18
  go_wp2
  go_loopw [6] (fun i wr => (∃ k : Nat, k ≤ n ∧ i = .int .i64 k ∧ ∀ j, j < k → badAt bs j = false) ∧ ∃ d, wr = w.drewN d) (fun i _ => n - (intOf i).toNat)
  case atStart => exact ⟨⟨0, Nat.zero_le _, rfl, fun j hj => absurd hj (Nat.not_lt_zero _)⟩, 0, rfl⟩
  case round =>
    obtain ⟨⟨k, hk, rfl, hno⟩, d, rfl⟩ := hrel
    by_cases hkn : k < n
    · obtain ⟨b, off, rfl, _, hc⟩ := hb.2 (by omega)
      have hck := hc k hkn
      have HNO := Lib.hid hno
      have HX := Lib.hid hx
      clear hno hx hb
      cases hbad : badAt bs k
      · have hnn : isnan (fat bs k) = false := by unfold badAt at hbad; simp at hbad; exact hbad.1
        by_cases hk0 : 0 < k
        · obtain ⟨t, ht⟩ : ∃ t, t = k - 1 := ⟨_, rfl⟩
          have ht2 : (k : Int) - 1 = (t : Int) := by omega
          have htn : t < n := by omega
          have hct := hc t htn
          have hwt : IntKind.i64.wrap (t : Int) = (t : Int) := IntWalk.i64_in _ (by omega)
          have hle0 : lef (fat bs k) (fat bs t) = false := by
            unfold badAt at hbad; rw [← ht] at hbad; simp only [hnn, hk0, decide_true, Bool.false_or, Bool.true_and] at hbad; exact hbad
          have hnt : isnan (fat bs t) = false := by have := HNO.out t (by omega); unfold badAt at this; simp at this; exact this.1
          have hle : ¬ cmpI (fat bs k) (fat bs t) ≤ 0 := by have := lef_cmp hnn hnt; rw [hle0] at this; exact of_decide_eq_false this.symm
          have HB := Lib.hid hbad
          clear hle0 hnt
          have HT := Lib.hid ht
          clear hc hbad ht
          go_wp2_with (fail)
          go_big_quiet ((first | (go_at_call 28; first | exact quiet_more (isnan_no hnn _) | exact Calls.quiet_of_same (isnan_no hnn _) | exact quiet_more (isnan_yes hnn _) | exact Calls.quiet_of_same (isnan_yes hnn _)) | (go_at_call 43; first | exact quiet_more (rcompare_any _ _ _) | exact Calls.quiet_of_same (rcompare_any _ _ _))))
          go_wp2_with (fail)
          go_roundw
          case rel => exact ⟨⟨k + 1, by omega, by go_num, fun j hj => by
            by_cases hjk : j = k
            · subst hjk; exact HB.out
            · exact HNO.out j (by omega)⟩, _, rfl⟩
          case measure => simp [intOf]; omega
        · have HB := Lib.hid hbad
          obtain rfl : k = 0 := by omega
          have hck0 : w.cell? ⟨b, off, none⟩ = some (.float .f64 (fat bs 0)) := hck
          clear hc hbad hck
          go_wp2_with (fail)
          go_big_quiet ((first | (go_at_call 28; first | exact quiet_more (isnan_no hnn _) | exact Calls.quiet_of_same (isnan_no hnn _) | exact quiet_more (isnan_yes hnn _) | exact Calls.quiet_of_same (isnan_yes hnn _)) | (go_at_call 43; first | exact quiet_more (rcompare_any _ _ _) | exact Calls.quiet_of_same (rcompare_any _ _ _))))
          go_wp2_with (fail)
          go_roundw
          case rel => exact ⟨⟨1, by omega, by go_num, fun j hj => by
            obtain rfl : j = 0 := by omega
            exact HB.out⟩, _, rfl⟩
          case measure => simp [intOf]; omega
      · have hyes := badTo_yes hkn hbad
        cases hnn : isnan (fat bs k)
        · have hbad2 := hbad
          unfold badAt at hbad2
          rw [hnn] at hbad2
          simp only [Bool.false_or, Bool.and_eq_true, decide_eq_true_eq] at hbad2
          obtain ⟨hk0, hle0⟩ := hbad2
          obtain ⟨t, ht⟩ : ∃ t, t = k - 1 := ⟨_, rfl⟩
          have ht2 : (k : Int) - 1 = (t : Int) := by omega
          have htn : t < n := by omega
          have hct := hc t htn
          have hwt : IntKind.i64.wrap (t : Int) = (t : Int) := IntWalk.i64_in _ (by omega)
          have hnt : isnan (fat bs t) = false := by have := HNO.out t (by omega); unfold badAt at this; simp at this; exact this.1
          have hle : cmpI (fat bs k) (fat bs t) ≤ 0 := by rw [← ht] at hle0; have := lef_cmp hnn hnt; rw [hle0] at this; exact of_decide_eq_true this.symm
          clear hnt
          have HB := Lib.hid hbad
          have HT := Lib.hid ht
          have HY := Lib.hid hyes
          clear hc hbad ht hle0 hyes
          go_wp2_with (fail)
          go_big_quiet ((first | (go_at_call 28; first | exact quiet_more (isnan_no hnn _) | exact Calls.quiet_of_same (isnan_no hnn _) | exact quiet_more (isnan_yes hnn _) | exact Calls.quiet_of_same (isnan_yes hnn _)) | (go_at_call 43; first | exact quiet_more (rcompare_any _ _ _) | exact Calls.quiet_of_same (rcompare_any _ _ _))))
          go_wp2_with (fail)
          go_ret2
          exact ⟨below_drewN (below_drewN (Below.refl _ _) _) _, .inl ⟨HY.out, rfl⟩⟩
        · have HB := Lib.hid hbad
          have HY := Lib.hid hyes
          clear hc hbad hyes
          go_wp2_with (fail)
          go_big_quiet ((first | (go_at_call 28; first | exact quiet_more (isnan_no hnn _) | exact Calls.quiet_of_same (isnan_no hnn _) | exact quiet_more (isnan_yes hnn _) | exact Calls.quiet_of_same (isnan_yes hnn _)) | (go_at_call 43; first | exact quiet_more (rcompare_any _ _ _) | exact Calls.quiet_of_same (rcompare_any _ _ _))))
          go_wp2_with (fail)
          go_ret2
          exact ⟨below_drewN (below_drewN (Below.refl _ _) _) _, .inl ⟨HY.out, rfl⟩⟩
    · obtain rfl : k = n := by omega
      have hbt := badTo_no hno
      have HBT := Lib.hid hbt
      have hct := fun w' (h : FRow w' w.heap.size A1 m xs) => hasNaN_any A1 m c1 w.heap.size xs w' h (by omega)
      have HMD := Lib.hid (fun w' => made_row w' k hn)
      clear hno hbt
      cases hnan : nanIn xs m
      · rw [hnan] at hct
        have HCT := Lib.hid hct
        have HNN := Lib.hid hnan
        clear hct hnan
        go_wp2_with (go_at_call 44; refine (HCT.out _ (hx.drewN d)).mono ?_; rintro e w' ⟨rfl, rfl⟩; obtain ⟨wM, hmk, hNM, hbM⟩ := HMD.out (w.drewN d))
        clear hmk HMD HCT
        have hbN : Below w.heap.size w wM := (below_drewN (Below.refl _ _) d).trans hbM
        replace hNM : NRow wM w.heap.size (some ⟨w.heap.size, 0, none⟩) (k + 1) (histF xs bs k 0) := hNM
        clear hbM
        go_loopw [8] (fun iv wr => ∃ t : Nat, t ≤ m ∧ iv = .int .i64 t ∧ NRow wr w.heap.size (some ⟨w.heap.size, 0, none⟩) (k + 1) (histF xs bs k t) ∧ Below w.heap.size w wr) (fun iv _ => m - (intOf iv).toNat)
        case atStart => exact ⟨0, Nat.zero_le _, rfl, hNM, hbN⟩
        case round =>
          obtain ⟨t, ht, rfl, hNt, hbt⟩ := hrel
          by_cases htm : t < m
          · obtain ⟨b1, off1, rfl, _, hc1⟩ := (hx.below hbt).2 (by omega)
            have hct1 := hc1 t htm
            have hP := posF_le (fat xs t) bs k
            have hbd := histF_bd xs bs k t (posF (fat xs t) bs k)
            obtain ⟨b2, off2, hA2, hB2, hl2, hcN⟩ := hNt (Nat.succ_pos _)
            simp only [Option.some.injEq, Addr.mk.injEq] at hA2
            obtain ⟨rfl, rfl, _⟩ := hA2
            have hcP := (hcN (posF (fat xs t) bs k) (by omega)).1
            have hfP := (hcN (posF (fat xs t) bs k) (by omega)).2
            have hput := fun q => (hNt.drewN q).put (i := posF (fat xs t) bs k) (by omega) (histF xs bs k t (posF (fat xs t) bs k) + 1)
            simp only [Nat.zero_add] at hcP hfP hput
            have HPUT := Lib.hid hput
            have hbb := hb.below hbt
            have hnx1 := nanIn_at HNN.out htm
            have HX1 := Lib.hid hnx1
            clear hnx1
            clear hcN hput hc1 hNM hbN hNt hx hb
            obtain ⟨wA, rfl⟩ : ∃ wA : World, wA = wr := ⟨_, rfl⟩
            go_wp2_with (fail)
            go_loopw [9] (fun kv wr => (∃ j : Nat, j ≤ k ∧ kv = .int .i64 j ∧ Hid (posG (fun i => gef (fat xs t) (fat bs i)) (k - j) j = posF (fat xs t) bs k)) ∧ ∃ d, wr = wA.drewN d) (fun kv _ => k - (intOf kv).toNat)
            case atStart => exact ⟨⟨0, Nat.zero_le _, rfl, Lib.hid rfl⟩, 0, rfl⟩
            case round =>
              obtain ⟨⟨j, hj, rfl, HJ⟩, d2, rfl⟩ := hrel
              by_cases hjk : j < k
              · obtain ⟨b3, off3, rfl, _, hc3⟩ := hbb.2 (by omega)
                have hcj := hc3 j hjk
                have hgc := gef_cmp HX1.out (badTo_at HBT.out hjk)
                clear hc3 hbb
                cases hg : gef (fat xs t) (fat bs j)
                · have hjP : posF (fat xs t) bs k = j := by rw [← HJ.out]; exact posG_stop hjk hg
                  have hcm : ¬ 0 ≤ cmpI (fat xs t) (fat bs j) := by rw [hg] at hgc; exact of_decide_eq_false hgc.symm
                  clear hgc
                  rw [hjP] at hcP hfP HPUT hbd hP
                  generalize hhv : histF xs bs k t j = hv at *
                  have HHV := Lib.hid hhv
                  have HJP := Lib.hid hjP
                  clear hhv hjP hg
                  go_wp2_with (fail)
                  go_big_quiet ((first | (go_at_call 28; first | exact quiet_more (isnan_no hnn _) | exact Calls.quiet_of_same (isnan_no hnn _) | exact quiet_more (isnan_yes hnn _) | exact Calls.quiet_of_same (isnan_yes hnn _)) | (go_at_call 43; first | exact quiet_more (rcompare_any _ _ _) | exact Calls.quiet_of_same (rcompare_any _ _ _))))
                  go_wp2_with (fail)
                  go_roundw
                  case rel =>
                    refine ⟨t + 1, by omega, by go_num, ?_, (below_drewN hbt _).setCell (p := ⟨w.heap.size, _, none⟩) (Nat.le_refl _) _⟩
                    have e : histF xs bs k (t + 1) = upd (histF xs bs k t) j (hv + 1) := by
                      show upd _ (posF (fat xs t) bs k) (histF xs bs k t (posF (fat xs t) bs k) + 1) = _
                      rw [HJP.out, HHV.out]
                    rw [e]
                    exact HPUT.out _
                  case measure => simp [intOf]; omega
                · have hcm : 0 ≤ cmpI (fat xs t) (fat bs j) := by rw [hg] at hgc; exact of_decide_eq_true hgc.symm
                  clear hgc
                  have hnx := posG_go (g := fun i => gef (fat xs t) (fat bs i)) hjk hg
                  have HNX := Lib.hid (hnx.symm.trans HJ.out)
                  clear hnx hg
                  go_wp2_with (fail)
                  go_big_quiet ((first | (go_at_call 28; first | exact quiet_more (isnan_no hnn _) | exact Calls.quiet_of_same (isnan_no hnn _) | exact quiet_more (isnan_yes hnn _) | exact Calls.quiet_of_same (isnan_yes hnn _)) | (go_at_call 43; first | exact quiet_more (rcompare_any _ _ _) | exact Calls.quiet_of_same (rcompare_any _ _ _))))
                  go_wp2_with (fail)
                  go_roundw
                  case rel => exact ⟨⟨j + 1, by omega, by go_num, HNX⟩, _, rfl⟩
                  case measure => simp [intOf]; omega
              · obtain rfl : j = k := by omega
                have hjP : posF (fat xs t) bs j = j := by rw [← HJ.out]; rw [Nat.sub_self]; rfl
                rw [hjP] at hcP hfP HPUT hbd hP
                generalize hhv : histF xs bs j t j = hv at *
                have HHV := Lib.hid hhv
                have HJP := Lib.hid hjP
                clear hhv hjP
                clear hbb
                go_wp2_with (fail)
                go_big_quiet ((first | (go_at_call 28; first | exact quiet_more (isnan_no hnn _) | exact Calls.quiet_of_same (isnan_no hnn _) | exact quiet_more (isnan_yes hnn _) | exact Calls.quiet_of_same (isnan_yes hnn _)) | (go_at_call 43; first | exact quiet_more (rcompare_any _ _ _) | exact Calls.quiet_of_same (rcompare_any _ _ _))))
                go_wp2_with (fail)
                go_roundw
                case rel =>
                  refine ⟨t + 1, by omega, by go_num, ?_, (below_drewN hbt _).setCell (p := ⟨w.heap.size, _, none⟩) (Nat.le_refl _) _⟩
                  have e : histF xs bs j (t + 1) = upd (histF xs bs j t) j (hv + 1) := by
                    show upd _ (posF (fat xs t) bs j) (histF xs bs j t (posF (fat xs t) bs j) + 1) = _
                    rw [HJP.out, HHV.out]
                  rw [e]
                  exact HPUT.out _
                case measure => simp [intOf]; omega
          · obtain rfl : t = m := by omega
            have HNt := Lib.hid hNt
            have Hbt := Lib.hid hbt
            clear hNt hbt hNM hbN hx hb
            go_wp2_with (fail)
            go_ret2
            exact ⟨Hbt.out, .inr (.inr ⟨HBT.out, HNN.out, _, rfl, HNt.out⟩)⟩
      · rw [hnan] at hct
        have HCT := Lib.hid hct
        have HNN := Lib.hid hnan
        clear hct hnan
        go_wp2_with (go_at_call 44; refine (HCT.out _ (hx.drewN d)).mono ?_; rintro e w' ⟨rfl, rfl⟩)
        go_ret2
        exact ⟨below_drewN (Below.refl _ _) _, .inr (.inl ⟨HBT.out, HNN.out, rfl⟩)⟩
/-- by what the lists are: a Histogram's answer -/
theorem HistR.bad {w w' : World} {m n : Nat} {xs bs : List Nat} {e : Ending} (h : HistR w w' m n xs bs e) (hb : badTo bs n = true) : e = .returned (.tuple #[.slice none 0 0, .int .i64 1]) ∧ Below w.heap.size w w' := by
  rcases h with ⟨h0, ⟨h1, h2⟩ | ⟨h1, _⟩ | ⟨h1, _⟩⟩
  · exact ⟨h2, h0⟩
  · rw [hb] at h1; cases h1
  · rw [hb] at h1; cases h1
theorem HistR.nan {w w' : World} {m n : Nat} {xs bs : List Nat} {e : Ending} (h : HistR w w' m n xs bs e) (hb : badTo bs n = false) (hn : nanIn xs m = true) : e = .returned (.tuple #[.slice none 0 0, .int .i64 10]) ∧ Below w.heap.size w w' := by
  rcases h with ⟨h0, ⟨h1, h2⟩ | ⟨h1, _, h2⟩ | ⟨_, h1, _⟩⟩
  · rw [hb] at h1; cases h1
  · exact ⟨h2, h0⟩
  · rw [hn] at h1; cases h1
theorem HistR.ok {w w' : World} {m n : Nat} {xs bs : List Nat} {e : Ending} (h : HistR w w' m n xs bs e) (hb : badTo bs n = false) (hn : nanIn xs m = false) : ∃ A, e = .returned (.tuple #[.slice A (n + 1) (n + 1), .int .i64 0]) ∧ NRow w' w.heap.size A (n + 1) (histF xs bs n m) ∧ Below w.heap.size w w' := by
  rcases h with ⟨h0, ⟨h1, h2⟩ | ⟨_, h1, h2⟩ | ⟨_, _, A, h2, h3⟩⟩
  · rw [hb] at h1; cases h1
  · rw [hn] at h1; cases h1
  · exact ⟨A, h2, h3, h0⟩
set_option maxHeartbeats 3200000 in
theorem StatsHistograms_walk (A1 : Option Addr) (m c1 : Nat) (xs : List Nat) (A2 : Option Addr) (n c2 : Nat) (bs : List Nat) (w : World) (hx : FRow w w.heap.size A1 m xs) (hxm : m * 8 ≤ 140737488355328) (hb : FRow w w.heap.size A2 n bs) (hbn : n * 8 ≤ 140737488355328) (hp : Pow10 w) :
    Calls Tryd.prog 5 #[.slice A1 m c1, .slice A2 n c2] w fun e w' => e = .returned (.bool true) ∧ Below w.heap.size w w' := by
  have O1 := Lib.hid (own_any A1 m c1 xs w hx hxm)
  have O2 := Lib.hid (fun w' (h : FRow w' w'.heap.size A2 n bs) => own_any A2 n c2 bs w' h hbn)
  have G1 := Lib.hid (fun B1 B2 d1 d2 w' (h1 : FRow w' w'.heap.size B1 m xs) (h2 : FRow w' w'.heap.size B2 n bs) => hist_any B1 B2 m n d1 d2 xs bs w' h1 h2 (by omega) (by omega))
  have G2 := Lib.hid (fun w' (h1 : FRow w' w'.heap.size A1 m xs) (h2 : FRow w' w'.heap.size A2 n bs) => rhist_any A1 A2 m n c1 c2 xs bs w' h1 h2 (by omega) (by omega))
  have HP := Lib.hid hp
  have HX := Lib.hid hx
  have HB := Lib.hid hb
  have AW := Lib.hid (fun w' (h : Below w.heap.size w w') => awake_any w' (hp.below h))
  clear hx hb hp
  cases hbad : badTo bs n
  · cases hnan : nanIn xs m
    · have HBN := Lib.hid hbad
      have HNN := Lib.hid hnan
      clear hbad hnan
      go_enter Tryd.func5, Tryd.ntmps5
      go_wp2_with (fail)
      refine O1.out.mono ?_
      rintro e w1 ⟨B1, d1, rfl, hF1, hb1⟩
      go_wp2_with (fail)
      refine (O2.out w1 ((HB.out.below hb1).more hb1.size)).mono ?_
      rintro e w2 ⟨B2, d2, rfl, hF2, hb2⟩
      go_wp2_with (fail)
      refine (G1.out B1 B2 d1 d2 w2 ((hF1.below hb2).more hb2.size) hF2).mono ?_
      intro e w3 hr
      obtain ⟨A3, rfl, hN3, hb3⟩ := hr.ok HBN.out HNN.out
      clear hr
      have hB3 : Below w.heap.size w w3 := hb1.trans ((hb2.trans (hb3.mono hb2.size)).mono hb1.size)
      have hF1' := (HX.out.below hB3).more hB3.size
      have hF2' := (HB.out.below hB3).more hB3.size
      clear hF1 hF2 hb1 hb2 hb3
      go_wp2_with (fail)
      refine (G2.out w3 hF1' hF2').mono ?_
      intro e w4 hr
      obtain ⟨A4, rfl, hN4, hb4⟩ := hr.ok HBN.out HNN.out
      have hB4 : Below w.heap.size w w4 := hB3.trans (hb4.mono hB3.size)
      have hN3' := hN3.below hb4 (Nat.le_refl _)
      clear hr hF1' hF2' hN3
      obtain ⟨b3, o3, rfl, _, hl3, hc3⟩ := hN3' (Nat.succ_pos _)
      obtain ⟨b4, o4, rfl, _, hl4, hc4⟩ := hN4 (Nat.succ_pos _)
      have HC3 := Lib.hid hc3
      have HC4 := Lib.hid hc4
      have HB4 := Lib.hid hB4
      clear hc3 hc4 hN3' hN4 hB3 hb4 hB4
      go_wp2_with (fail)
      go_loopw [9, 10] (fun nv iv wr => (∃ j : Nat, j ≤ n + 1 ∧ iv = .int .i64 j ∧ nv = .int .i64 (sumN (histF xs bs n m) j)) ∧ ∃ d, wr = w4.drewN d) (fun _ iv _ => n + 1 - (intOf iv).toNat)
      case atStart => exact ⟨⟨0, Nat.zero_le _, rfl, rfl⟩, 0, rfl⟩
      case round =>
        obtain ⟨⟨j, hj, rfl, rfl⟩, d, rfl⟩ := hrel
        have hsb := hist_part xs bs n m j hj
        by_cases hjn : j < n + 1
        · have c3 := (HC3.out j hjn).1
          have c4 := (HC4.out j hjn).1
          have hnx := Lib.hid (show sumN (histF xs bs n m) (j + 1) = sumN (histF xs bs n m) j + histF xs bs n m j from rfl)
          have hvb := histF_bd xs bs n m j
          generalize histF xs bs n m j = hv at *
          generalize sumN (histF xs bs n m) j = sv at *
          go_wp2_with (fail)
          go_big_quiet (fail)
          go_wp2_with (fail)
          go_roundw
          case rel => exact ⟨⟨j + 1, by omega, by go_num, by rw [hnx.out]⟩, _, rfl⟩
          case measure => simp [intOf]; omega
        · obtain rfl : j = n + 1 := by omega
          have hsum := histF_sum xs bs n m
          rw [hsum]
          clear hsb hsum
          go_wp2_with (fail)
          refine (AW.out _ (below_drewN HB4.out _)).mono ?_
          rintro e w' ⟨rfl, hba⟩
          go_wp2
          go_ret
          exact ⟨rfl, (below_drewN HB4.out _).trans (hba.mono (below_drewN HB4.out 0).size)⟩
    · have HBN := Lib.hid hbad
      have HNN := Lib.hid hnan
      clear hbad hnan
      go_enter Tryd.func5, Tryd.ntmps5
      go_wp2_with (fail)
      refine O1.out.mono ?_
      rintro e w1 ⟨B1, d1, rfl, hF1, hb1⟩
      go_wp2_with (fail)
      refine (O2.out w1 ((HB.out.below hb1).more hb1.size)).mono ?_
      rintro e w2 ⟨B2, d2, rfl, hF2, hb2⟩
      go_wp2_with (fail)
      refine (G1.out B1 B2 d1 d2 w2 ((hF1.below hb2).more hb2.size) hF2).mono ?_
      intro e w3 hr
      obtain ⟨rfl, hb3⟩ := hr.nan HBN.out HNN.out
      clear hr
      have hB3 : Below w.heap.size w w3 := hb1.trans ((hb2.trans (hb3.mono hb2.size)).mono hb1.size)
      have hF1' := (HX.out.below hB3).more hB3.size
      have hF2' := (HB.out.below hB3).more hB3.size
      clear hF1 hF2 hb1 hb2 hb3
      go_wp2_with (fail)
      refine (G2.out w3 hF1' hF2').mono ?_
      intro e w4 hr
      obtain ⟨rfl, hb4⟩ := hr.nan HBN.out HNN.out
      have hB4 : Below w.heap.size w w4 := hB3.trans (hb4.mono hB3.size)
      clear hr hF1' hF2'
      go_wp2_with (fail)
      go_loop [9, 10] (fun nv iv => nv = .int .i64 0 ∧ iv = .int .i64 0) (fun _ _ => 0)
      case atStart => exact ⟨rfl, rfl⟩
      case round =>
        obtain ⟨rfl, rfl⟩ := hrel
        go_wp2_with (fail)
        refine (AW.out _ hB4).mono ?_
        rintro e w' ⟨rfl, hba⟩
        go_wp2
        go_ret
        exact ⟨rfl, hB4.trans (hba.mono hB4.size)⟩
  · have HBD := Lib.hid hbad
    clear hbad
    go_enter Tryd.func5, Tryd.ntmps5
    go_wp2_with (fail)
    refine O1.out.mono ?_
    rintro e w1 ⟨B1, d1, rfl, hF1, hb1⟩
    go_wp2_with (fail)
    refine (O2.out w1 ((HB.out.below hb1).more hb1.size)).mono ?_
    rintro e w2 ⟨B2, d2, rfl, hF2, hb2⟩
    go_wp2_with (fail)
    refine (G1.out B1 B2 d1 d2 w2 ((hF1.below hb2).more hb2.size) hF2).mono ?_
    intro e w3 hr
    obtain ⟨rfl, hb3⟩ := hr.bad HBD.out
    clear hr
    have hB3 : Below w.heap.size w w3 := hb1.trans ((hb2.trans (hb3.mono hb2.size)).mono hb1.size)
    have hF1' := (HX.out.below hB3).more hB3.size
    have hF2' := (HB.out.below hB3).more hB3.size
    clear hF1 hF2 hb1 hb2 hb3
    go_wp2_with (fail)
    refine (G2.out w3 hF1' hF2').mono ?_
    intro e w4 hr
    obtain ⟨rfl, hb4⟩ := hr.bad HBD.out
    have hB4 : Below w.heap.size w w4 := hB3.trans (hb4.mono hB3.size)
    clear hr hF1' hF2'
    go_wp2_with (fail)
    go_loop [9, 10] (fun nv iv => nv = .int .i64 0 ∧ iv = .int .i64 0) (fun _ _ => 0)
    case atStart => exact ⟨rfl, rfl⟩
    case round =>
      obtain ⟨rfl, rfl⟩ := hrel
      go_wp2_with (fail)
      refine (AW.out _ hB4).mono ?_
      rintro e w' ⟨rfl, hba⟩
      go_wp2
      go_ret
      exact ⟨rfl, hB4.trans (hba.mono hB4.size)⟩

end Go.Proofs.YtjcgachdnkdamaaDoor
