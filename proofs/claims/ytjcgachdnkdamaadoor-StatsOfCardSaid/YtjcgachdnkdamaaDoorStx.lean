/- The walk of stats.Text. Conditions: the word fits 64 bits; the library's table of powers of ten lies as its text lays it. -/
import Derived.Test.YtjcgachdnkdamaaDoorLeaf
import Derived.Test.YtjcgachdnkdamaaDoorSfl
import Derived.Test.YtjcgachdnkdamaaDoorShelf
import Derived.Deep.RegionWith
import Derived.Deep.QuietTactic
import Derived.IntWalk
import Derived.Lib.ItoaLen
import Derived.Test.YtjcgachdnkdamaaDoorRow
namespace Go.Proofs.YtjcgachdnkdamaaDoor
open Go.RowKit Flt Go.Mem

theorem below_drewN {B : Nat} {a w : World} (h : Below B a w) (n : Nat) : Below B a (w.drewN n) := ⟨h.os, h.tape, h.output, h.size, h.block⟩
theorem ret_str {a b : ByteArray} (h : a = b) : Ending.returned (.string a) = .returned (.string b) := by rw [h]
def Pow10 (w : World) : Prop := Lib.TabIs Tryd.prog w "internal/strconv.uint64pow10" .u64 Lib.pow10Tab
theorem Pow10.below {w w' : World} (h : Pow10 w) (hb : Below w.heap.size w w') : Pow10 w' := Lib.tabBelow_of_tabIs h w' hb
theorem fmtInt_any (n : Int) (h0 : -9223372036854775808 ≤ n) (h1 : n ≤ 9223372036854775807) (w : World) (ht : Pow10 w) :
    Calls Tryd.prog 38 #[.int .i64 n, .int .i64 10] w fun e w' => e = .returned (.string (itoaB n)) ∧ Below w.heap.size w w' :=
  (Tryd.strconv_FormatInt_10 n h0 h1 w ht).mono fun e w' ⟨he, k, os, hw⟩ => ⟨he, by rw [hw]; exact Lib.below_grow _ w (Nat.le_refl _) k os⟩
theorem itoa_any (n : Int) (h0 : -9223372036854775808 ≤ n) (h1 : n ≤ 9223372036854775807) (w : World) (ht : Pow10 w) :
    Calls Tryd.prog 40 #[.int .i64 n] w fun e w' => e = .returned (.string (itoaB n)) ∧ Below w.heap.size w w' :=
  (Tryd.strconv_Itoa n h0 h1 w ht).mono fun e w' ⟨he, k, os, hw⟩ => ⟨he, by rw [hw]; exact Lib.below_grow _ w (Nat.le_refl _) k os⟩
theorem floor_ext (b : Nat) (h : isnan b = false) (w : World) : (callFunc 55 #[.float .f64 b]).run Tryd.prog w = .ok (.value (.float .f64 (floorW b))) w := by
  rw [run_callFunc_extern (e := Extern.MathFloor.toIntegral "math.archFloor" .down) Tryd.func55 (by kernel_rfl) (by kernel_rfl) (by kernel_rfl) (by kernel_rfl)]
  rw [toIntegral_notnan _ _ h]
  rfl
set_option maxHeartbeats 400000 in
theorem floor_any (b : Nat) (w : World) (h : isnan b = false) : Calls Tryd.prog 37 #[.float .f64 b] w fun e w' => e = .returned (.float .f64 (floorW b)) ∧ w' = w := by
  have hb := floor_ext b h
  go_enter Tryd.func37, Tryd.ntmps37
  go_wp2
  go_ret
  exact ⟨rfl, rfl⟩
set_option maxHeartbeats 400000 in
theorem isinfm_any (b : Nat) (w : World) (h : b < 18446744073709551616) : Calls Tryd.prog 36 #[.float .f64 b, .int .i64 (-1)] w fun e w' => e = .returned (.bool (isNinf b)) ∧ w' = w := by
  have hneg : ∀ w, (Op.unary .neg (.float .f64 b)).run Tryd.prog w = .ok (.float .f64 (Op.negFloat .f64 b)) w := fun _ => rfl
  have hni := neg_inf b h
  unfold maxf at hni
  generalize Op.negFloat .f64 b = nb at *
  go_enter Tryd.func36, Tryd.ntmps36
  go_wp2
  go_ret
  exact ⟨ret_bool (by first | rfl | exact hni), rfl⟩
def infW (b : Nat) (s : Int) : Bool := if s = -1 then isNinf b else isPinf b
theorem isinfs_any (b : Nat) (s : Int) (w : World) (hs : s = 1 ∨ s = -1) (h : b < 18446744073709551616) : Calls Tryd.prog 36 #[.float .f64 b, .int .i64 s] w fun e w' => e = .returned (.bool (infW b s)) ∧ w' = w := by
  rcases hs with rfl | rfl
  · exact isinf1_any b w
  · exact isinfm_any b w h
theorem conv_nS {f : Nat} (h : rung f < 4786511204640096256) (w : World) : (convert 25 2 (.float .f64 (floorW (mulK f)))).run Tryd.prog w = .ok (.int .i64 (nS f)) w := by
  obtain ⟨_, _, h3, h4, h5⟩ := nS_ok h
  refine run_convert_float_int w 25 2 .f64 .i64 _ _ (by rw [Tryd.underlying25]; rfl) Tryd.underlying2 ?_
  unfold floatToIntVal
  have h3' : (FloatKind.f64.decode (floorW (mulK f))).toInt .zero = some (nS f) := h3
  rw [h3']
  exact if_pos ⟨by show -9223372036854775808 ≤ _; omega, by show _ ≤ 9223372036854775807; omega⟩
set_option maxHeartbeats 1600000 in
theorem stext_any (d : Nat) (_hd : d < 18446744073709551616) (w : World) (hp : Pow10 w) : Calls Tryd.prog 12 #[.float .f64 d] w fun e w' => e = .returned (.string (textS d)) ∧ Below w.heap.size w w' := by
  have HP := Lib.hid hp
  clear hp
  cases h1 : isnan d
  · cases h2 : isPinf d
    · cases h3 : isNinf d
      · cases h4 : (fgt d 4786511204640096256 || feq d 4786511204640096256)
        · cases h5 : (flt d 14009883241494872064 || feq d 14009883241494872064)
          · have hr := small_of h1 h4 h5
            obtain ⟨n1, n2, n3, n4, n5⟩ := nS_ok hr
            have hop : ∀ t w, (binOp .mul t (.float .f64 d) (.float .f64 4652007308841189376)).run Tryd.prog w = .ok (.float .f64 (mulK d)) w := fun t w => run_float_arith w .mul t .f64 _ _ _ n1
            have hcv := conv_nS hr
            have HT : Hid (textS d = numS (nS d)) := Lib.hid (by unfold textS; rw [h1, h2, h3, h4, h5]; rfl)
            have hP : infW d 1 = false := h2
            have hN : infW d (-1) = false := h3
            clear n1 n3 hr
            obtain ⟨N, hN2⟩ : ∃ N, N = nS d := ⟨_, rfl⟩
            rw [← hN2] at n4 n5 hcv HT
            clear hN2
            obtain ⟨r, hr⟩ : ∃ r, r = N.natAbs % 1000 := ⟨_, rfl⟩
            obtain ⟨q, hq⟩ : ∃ q, q = N.natAbs / 1000 := ⟨_, rfl⟩
            have hS : Hid (numS N = (if N < 0 then ⟨#[45]⟩ else ⟨#[]⟩) ++ itoaB (q : Int) ++ ⟨#[46]⟩ ++ padB (itoaB (r : Int))) := Lib.hid (by rw [hr, hq]; rfl)
            have hrb : r < 1000 := by omega
            have hqb : q ≤ 4503599627371 := by omega
            have z3 := (dec_len3 r hrb).1
            have z4 := (dec_len3 r hrb).2.1
            rw [← itoaB_size r] at z3 z4
            have zb : (itoaB (q : Int)).size ≤ 21 := by
              have := Lib.itoa_length_le (q : Int) (by omega) (by omega)
              unfold itoaB; rw [ba_mk_size]; exact this
            obtain ⟨A, hA⟩ : ∃ A, A = N.natAbs := ⟨_, rfl⟩
            have e1 : (A : Int) % 1000 = (r : Int) := by omega
            have e2 : (A : Int) / 1000 = (q : Int) := by omega
            have e3 : IntKind.i64.wrap (q : Int) = (q : Int) := IntWalk.i64_in _ (by omega)
            have e4 := Int.tmod_eq_emod_of_nonneg (a := (A : Int)) (b := 1000) (by omega)
            clear hr hq
            by_cases hneg : N < 0
            · obtain rfl : N = -(A : Int) := by omega
              clear hA
              go_enter Tryd.func12, Tryd.ntmps12
              go_wp2_with (first | (go_at_call 28; refine (isnan_any _ _).mono ?_; rintro e w' ⟨rfl, rfl⟩) | (go_at_call 36; refine (isinfs_any _ _ _ (by decide) _hd).mono ?_; rintro e w' ⟨rfl, rfl⟩) | (go_at_call 37; refine (floor_any _ _ n2).mono ?_; rintro e w' ⟨rfl, rfl⟩))
              refine (fmtInt_any _ (by omega) (by omega) _ HP.out).mono ?_
              rintro e w1 ⟨rfl, hb1⟩
              have HB1 := Lib.hid hb1
              have HP1 := Lib.hid (HP.out.below hb1)
              clear hb1
              go_wp2_with (fail)
              go_region_with (go_simp; go_at_call 38; refine (fmtInt_any _ (by clear e1 e2 e3 e4; omega) (by clear e1 e2 e3 e4; omega) _ ?_).mono ?_; (first | exact HP1.out.below ((Below.refl _ _).drew) | exact HP1.out.below (((Below.refl _ _).alloc (Nat.le_refl _) _).drew)); rintro e w2 ⟨rfl, hb2⟩; have hs2 := hb2.size; obtain ⟨hc2, hf2⟩ := bcell hb2)
              all_goals
                go_wp2
                go_ret
                refine ⟨ret_str ?_, HB1.out.trans ((((Below.refl _ _).drew).trans hb2).mono HB1.out.size)⟩
                rw [HT.out, hS.out]
                unfold padB
                rw [if_pos hneg]
                simp only [ByteArray.append_assoc]
            · obtain rfl : N = (A : Int) := by omega
              clear hA
              go_enter Tryd.func12, Tryd.ntmps12
              go_wp2_with (first | (go_at_call 28; refine (isnan_any _ _).mono ?_; rintro e w' ⟨rfl, rfl⟩) | (go_at_call 36; refine (isinfs_any _ _ _ (by decide) _hd).mono ?_; rintro e w' ⟨rfl, rfl⟩) | (go_at_call 37; refine (floor_any _ _ n2).mono ?_; rintro e w' ⟨rfl, rfl⟩))
              refine (fmtInt_any _ (by omega) (by omega) _ HP.out).mono ?_
              rintro e w1 ⟨rfl, hb1⟩
              have HB1 := Lib.hid hb1
              have HP1 := Lib.hid (HP.out.below hb1)
              clear hb1
              go_wp2_with (fail)
              go_region_with (go_simp; go_at_call 38; refine (fmtInt_any _ (by clear e1 e2 e3 e4; omega) (by clear e1 e2 e3 e4; omega) _ ?_).mono ?_; (first | exact HP1.out.below ((Below.refl _ _).drew) | exact HP1.out.below (((Below.refl _ _).alloc (Nat.le_refl _) _).drew)); rintro e w2 ⟨rfl, hb2⟩; have hs2 := hb2.size; obtain ⟨hc2, hf2⟩ := bcell hb2)
              all_goals
                go_wp2
                go_ret
                refine ⟨ret_str ?_, HB1.out.trans ((((Below.refl _ _).drew).trans hb2).mono HB1.out.size)⟩
                rw [HT.out, hS.out]
                unfold padB
                rw [if_neg (by omega)]
                simp only [ByteArray.append_assoc]
          · have HT : Hid (textS d = ⟨#[45, 98, 105, 103]⟩) := Lib.hid (by unfold textS; rw [h1, h2, h3, h4, h5]; rfl)
            have hP : infW d 1 = _ := h2
            have hN : infW d (-1) = _ := h3
            go_enter Tryd.func12, Tryd.ntmps12
            go_wp2_with (first | (go_at_call 28; refine (isnan_any _ _).mono ?_; rintro e w' ⟨rfl, rfl⟩) | (go_at_call 36; refine (isinfs_any _ _ _ (by decide) _hd).mono ?_; rintro e w' ⟨rfl, rfl⟩))
            go_ret
            exact ⟨ret_str HT.out.symm, Below.refl _ _⟩
        · have HT : Hid (textS d = ⟨#[98, 105, 103]⟩) := Lib.hid (by unfold textS; rw [h1, h2, h3, h4]; rfl)
          have hP : infW d 1 = _ := h2
          have hN : infW d (-1) = _ := h3
          go_enter Tryd.func12, Tryd.ntmps12
          go_wp2_with (first | (go_at_call 28; refine (isnan_any _ _).mono ?_; rintro e w' ⟨rfl, rfl⟩) | (go_at_call 36; refine (isinfs_any _ _ _ (by decide) _hd).mono ?_; rintro e w' ⟨rfl, rfl⟩))
          go_ret
          exact ⟨ret_str HT.out.symm, Below.refl _ _⟩
      · have HT : Hid (textS d = ⟨#[45, 105, 110, 102]⟩) := Lib.hid (by unfold textS; rw [h1, h2, h3]; rfl)
        have hP : infW d 1 = _ := h2
        have hN : infW d (-1) = _ := h3
        go_enter Tryd.func12, Tryd.ntmps12
        go_wp2_with (first | (go_at_call 28; refine (isnan_any _ _).mono ?_; rintro e w' ⟨rfl, rfl⟩) | (go_at_call 36; refine (isinfs_any _ _ _ (by decide) _hd).mono ?_; rintro e w' ⟨rfl, rfl⟩))
        go_ret
        exact ⟨ret_str HT.out.symm, Below.refl _ _⟩
    · have HT : Hid (textS d = ⟨#[105, 110, 102]⟩) := Lib.hid (by unfold textS; rw [h1, h2]; rfl)
      have hP : infW d 1 = _ := h2
      go_enter Tryd.func12, Tryd.ntmps12
      go_wp2_with (first | (go_at_call 28; refine (isnan_any _ _).mono ?_; rintro e w' ⟨rfl, rfl⟩) | (go_at_call 36; refine (isinfs_any _ _ _ (by decide) _hd).mono ?_; rintro e w' ⟨rfl, rfl⟩))
      go_ret
      exact ⟨ret_str HT.out.symm, Below.refl _ _⟩
  · have HT : Hid (textS d = ⟨#[110, 97, 110]⟩) := Lib.hid (by unfold textS; rw [h1]; rfl)
    go_enter Tryd.func12, Tryd.ntmps12
    go_wp2_with (first | (go_at_call 28; refine (isnan_any _ _).mono ?_; rintro e w' ⟨rfl, rfl⟩) | (go_at_call 36; refine (isinfs_any _ _ _ (by decide) _hd).mono ?_; rintro e w' ⟨rfl, rfl⟩))
    go_ret
    exact ⟨ret_str HT.out.symm, Below.refl _ _⟩

end Go.Proofs.YtjcgachdnkdamaaDoor
