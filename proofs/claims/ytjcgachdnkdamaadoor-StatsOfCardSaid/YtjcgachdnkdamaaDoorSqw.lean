/- The walks of Mean, Quantile, program and reference, of Same and SameList. Conditions: as each theorem's hypotheses say; lists of less than 2^45 floats. -/
import Derived.Test.YtjcgachdnkdamaaDoorSso
namespace Go.Proofs.YtjcgachdnkdamaaDoor
open Go.RowKit Flt Go.Mem Go.Lib
set_option linter.unusedVariables false

set_option maxHeartbeats 1600000
theorem same_any (a : Nat) (w : World) : Calls Tryd.prog 21 #[.float .f64 a, .float .f64 a] w fun e w' => e = .returned (.bool true) ∧ w' = w := by
  have hb := bits_ext a
  go_enter Tryd.func21, Tryd.ntmps21
  go_wp2
  go_ret
  exact ⟨rfl, rfl⟩
theorem samelist_any (A A2 : Option Addr) (n c c2 B B2 : Nat) (l : List Nat) (w : World) (h1 : FRow w B A n l) (h2 : FRow w B2 A2 n l) (hn : n ≤ 9223372036854775806) :
    Calls Tryd.prog 23 #[.slice A n c, .slice A2 n c2] w fun e w' => e = .returned (.bool true) ∧ ∃ d, w' = w.drewN d := by
  go_enter Tryd.func23, Tryd.ntmps23
  go_wp2_with (fail)
  go_loopw [5] (fun iv wr => (∃ i : Nat, i ≤ n ∧ iv = .int .i64 i) ∧ ∃ d, wr = w.drewN d) (fun iv _ => n - (intOf iv).toNat)
  case atStart => exact ⟨⟨0, Nat.zero_le _, rfl⟩, 0, rfl⟩
  case round =>
    obtain ⟨⟨i, hi, rfl⟩, d, rfl⟩ := hrel
    by_cases hin : i < n
    · obtain ⟨b, off, rfl, _, hc⟩ := h1.2 (by omega)
      obtain ⟨b2, off2, rfl, _, hc2⟩ := h2.2 (by omega)
      have c1 := hc i hin
      have c3 := hc2 i hin
      clear hc hc2 h1 h2
      go_wp2_with (fail)
      go_big_quiet ((first | (go_at_call 21; first | exact quiet_more (same_any _ _) | exact Calls.quiet_of_same (same_any _ _)) | exact quiet_more (same_any _ _) | exact Calls.quiet_of_same (same_any _ _)))
      go_wp2_with (fail)
      go_roundw
      case rel => exact ⟨⟨i + 1, by omega, by go_num⟩, _, rfl⟩
      case measure => simp [intOf]; omega
    · obtain rfl : i = n := by omega
      clear h1 h2
      go_wp2_with (fail)
      go_ret
      exact ⟨rfl, _, rfl⟩
/-- the mean: its word -/
noncomputable def meanW (l : List Nat) (n : Nat) : Nat :=
  if n = 0 then 0 else match floatBits .quo .f64 (sumS l n) (floatOfInt .f64 n) with
    | some v => if isnan v then 9221120237041090560 else v
    | none => 9221120237041090560
def meanE (n : Nat) : Int := if n = 0 then 4 else 0
theorem meanW_none {l : List Nat} {n : Nat} (h : ¬ n = 0) (e : floatBits .quo .f64 (sumS l n) (floatOfInt .f64 n) = none) : meanW l n = 9221120237041090560 := by unfold meanW; rw [if_neg h, e]
theorem meanW_nan {l : List Nat} {n v : Nat} (h : ¬ n = 0) (e : floatBits .quo .f64 (sumS l n) (floatOfInt .f64 n) = some v) (hv : isnan v = true) : meanW l n = 9221120237041090560 := by unfold meanW; rw [if_neg h, e]; simp [hv]
theorem meanW_some {l : List Nat} {n v : Nat} (h : ¬ n = 0) (e : floatBits .quo .f64 (sumS l n) (floatOfInt .f64 n) = some v) (hv : isnan v = false) : meanW l n = v := by unfold meanW; rw [if_neg h, e]; simp [hv]
theorem ret_mean {l : List Nat} {n v : Nat} {k : Int} (h : meanW l n = v) (h2 : meanE n = k) : Ending.returned (.tuple #[.float .f64 v, .int .i64 k]) = .returned (.tuple #[.float .f64 (meanW l n), .int .i64 (meanE n)]) := by rw [h, h2]
theorem smean_any (A : Option Addr) (n c B : Nat) (l : List Nat) (w : World) (hl : FRow w B A n l) (hn : n ≤ 9223372036854775806) (hlt : ∀ x ∈ l, x < 18446744073709551616) :
    Calls Tryd.prog 19 #[.slice A n c] w fun e w' => e = .returned (.tuple #[.float .f64 (meanW l n), .int .i64 (meanE n)]) ∧ ∃ d, w' = w.drewN d := by
  by_cases h0 : n = 0
  · subst h0
    go_enter Tryd.func19, Tryd.ntmps19
    go_wp2_with (fail)
    go_ret2
    exact ⟨rfl, 0, rfl⟩
  · have SU := Lib.hid (sum_any A n c B l w hl (by omega) hlt)
    have he : meanE n = 0 := by unfold meanE; rw [if_neg h0]
    have heq : ((n : Int) == 0) = false := by rw [beq_eq_false_iff_ne]; omega
    clear hl hlt
    rcases hq : floatBits .quo .f64 (sumS l n) (floatOfInt .f64 n) with _ | v
    · have hm := meanW_none h0 hq
      have hop : ∀ t w, (binOp .quo t (.float .f64 (sumS l n)) (.float .f64 (floatOfInt .f64 n))).run Tryd.prog w = .ok (.float .f64 (nanOf w (sumS l n) (floatOfInt .f64 n))) w.drew := fun t w => run_float_nan w .quo (.inr (.inr (.inr rfl))) t _ _ hq
      have HM := Lib.hid hm
      have HE := Lib.hid he
      clear hq hm he
      generalize sumS l n = sv at *
      go_enter Tryd.func19, Tryd.ntmps19
      go_wp2_with (first | (go_at_call 10; refine SU.out.mono ?_; rintro e w' ⟨rfl, d, rfl⟩) | (go_at_call 28; refine (isnan_yes (nanOf_nan _ _ _) _).mono ?_; rintro e w' ⟨rfl, rfl⟩) | (go_at_call 45; refine (nan_any _).mono ?_; rintro e w' ⟨rfl, rfl⟩))
      go_ret2
      exact ⟨ret_mean HM.out HE.out, _, rfl⟩
    · have hop : ∀ t w, (binOp .quo t (.float .f64 (sumS l n)) (.float .f64 (floatOfInt .f64 n))).run Tryd.prog w = .ok (.float .f64 v) w := fun t w => run_float_arith w .quo t .f64 _ _ v hq
      cases hv : isnan v
      · have HM := Lib.hid (meanW_some h0 hq hv)
        have HE := Lib.hid he
        clear hq he
        generalize sumS l n = sv at *
        go_enter Tryd.func19, Tryd.ntmps19
        go_wp2_with (first | (go_at_call 10; refine SU.out.mono ?_; rintro e w' ⟨rfl, d, rfl⟩) | (go_at_call 28; refine (isnan_no hv _).mono ?_; rintro e w' ⟨rfl, rfl⟩) | (go_at_call 45; refine (nan_any _).mono ?_; rintro e w' ⟨rfl, rfl⟩))
        go_ret2
        exact ⟨ret_mean HM.out HE.out, _, rfl⟩
      · have HM := Lib.hid (meanW_nan h0 hq hv)
        have HE := Lib.hid he
        clear hq he
        generalize sumS l n = sv at *
        go_enter Tryd.func19, Tryd.ntmps19
        go_wp2_with (first | (go_at_call 10; refine SU.out.mono ?_; rintro e w' ⟨rfl, d, rfl⟩) | (go_at_call 28; refine (isnan_yes hv _).mono ?_; rintro e w' ⟨rfl, rfl⟩) | (go_at_call 45; refine (nan_any _).mono ?_; rintro e w' ⟨rfl, rfl⟩))
        go_ret2
        exact ⟨ret_mean HM.out HE.out, _, rfl⟩
theorem rmean_any (A : Option Addr) (n c B : Nat) (l : List Nat) (w : World) (hl : FRow w B A n l) (hn : n ≤ 9223372036854775806) (hlt : ∀ x ∈ l, x < 18446744073709551616) :
    Calls Tryd.prog 20 #[.slice A n c] w fun e w' => e = .returned (.tuple #[.float .f64 (meanW l n), .int .i64 (meanE n)]) ∧ ∃ d, w' = w.drewN d := by
  by_cases h0 : n = 0
  · subst h0
    go_enter Tryd.func20, Tryd.ntmps20
    go_wp2_with (fail)
    go_ret2
    exact ⟨rfl, 0, rfl⟩
  · have SU := Lib.hid (rsum_any A n c B l w hl (by omega) hlt)
    have he : meanE n = 0 := by unfold meanE; rw [if_neg h0]
    have heq : ((n : Int) == 0) = false := by rw [beq_eq_false_iff_ne]; omega
    clear hl hlt
    rcases hq : floatBits .quo .f64 (sumS l n) (floatOfInt .f64 n) with _ | v
    · have hm := meanW_none h0 hq
      have hop : ∀ t w, (binOp .quo t (.float .f64 (sumS l n)) (.float .f64 (floatOfInt .f64 n))).run Tryd.prog w = .ok (.float .f64 (nanOf w (sumS l n) (floatOfInt .f64 n))) w.drew := fun t w => run_float_nan w .quo (.inr (.inr (.inr rfl))) t _ _ hq
      have HM := Lib.hid hm
      have HE := Lib.hid he
      clear hq hm he
      generalize sumS l n = sv at *
      go_enter Tryd.func20, Tryd.ntmps20
      go_wp2_with (first | (go_at_call 22; refine SU.out.mono ?_; rintro e w' ⟨rfl, d, rfl⟩) | (go_at_call 28; refine (isnan_yes (nanOf_nan _ _ _) _).mono ?_; rintro e w' ⟨rfl, rfl⟩) | (go_at_call 46; refine (rNaN_any _).mono ?_; rintro e w' ⟨rfl, rfl⟩))
      go_ret2
      exact ⟨ret_mean HM.out HE.out, _, rfl⟩
    · have hop : ∀ t w, (binOp .quo t (.float .f64 (sumS l n)) (.float .f64 (floatOfInt .f64 n))).run Tryd.prog w = .ok (.float .f64 v) w := fun t w => run_float_arith w .quo t .f64 _ _ v hq
      cases hv : isnan v
      · have HM := Lib.hid (meanW_some h0 hq hv)
        have HE := Lib.hid he
        clear hq he
        generalize sumS l n = sv at *
        go_enter Tryd.func20, Tryd.ntmps20
        go_wp2_with (first | (go_at_call 22; refine SU.out.mono ?_; rintro e w' ⟨rfl, d, rfl⟩) | (go_at_call 28; refine (isnan_no hv _).mono ?_; rintro e w' ⟨rfl, rfl⟩) | (go_at_call 46; refine (rNaN_any _).mono ?_; rintro e w' ⟨rfl, rfl⟩))
        go_ret2
        exact ⟨ret_mean HM.out HE.out, _, rfl⟩
      · have HM := Lib.hid (meanW_nan h0 hq hv)
        have HE := Lib.hid he
        clear hq he
        generalize sumS l n = sv at *
        go_enter Tryd.func20, Tryd.ntmps20
        go_wp2_with (first | (go_at_call 22; refine SU.out.mono ?_; rintro e w' ⟨rfl, d, rfl⟩) | (go_at_call 28; refine (isnan_yes hv _).mono ?_; rintro e w' ⟨rfl, rfl⟩) | (go_at_call 46; refine (rNaN_any _).mono ?_; rintro e w' ⟨rfl, rfl⟩))
        go_ret2
        exact ⟨ret_mean HM.out HE.out, _, rfl⟩
/-- which place of the sorted list a quantile is -/
def quaJ (th : Int) (n : Nat) : Nat := max ((th.toNat * n + 999) / 1000) 1 - 1
theorem quaJ_lt {th : Int} {n : Nat} (h : th ≤ 1000) (hn : 0 < n) : quaJ th n < n := by
  unfold quaJ
  have h1 : th.toNat * n ≤ 1000 * n := Nat.mul_le_mul_right _ (by omega)
  generalize th.toNat * n = p at *
  omega
/-- what a quantile is: its word, its error -/
def QuantV (l : List Nat) (n : Nat) (th : Int) (q : Nat) (er : Int) : Prop :=
  ((th < 0 ∨ 1000 < th) ∧ q = 0 ∧ er = 1) ∨ ((0 ≤ th ∧ th ≤ 1000) ∧ nanIn l n = true ∧ q = 0 ∧ er = 10) ∨ ((0 ≤ th ∧ th ≤ 1000) ∧ nanIn l n = false ∧ n = 0 ∧ q = 0 ∧ er = 4) ∨
  ((0 ≤ th ∧ th ≤ 1000) ∧ nanIn l n = false ∧ 0 < n ∧ er = 0 ∧ ∃ r, SortedOf l n r ∧ q = fat r (quaJ th n))
theorem QuantV.one {l : List Nat} {n : Nat} {th : Int} {q q2 : Nat} {er er2 : Int} (h : QuantV l n th q er) (g : QuantV l n th q2 er2) : q = q2 ∧ er = er2 := by
  rcases h with ⟨h0, h1, h2⟩ | ⟨h0, h3, h1, h2⟩ | ⟨h0, h3, h4, h1, h2⟩ | ⟨h0, h3, h4, h2, r, h5, h1⟩ <;> rcases g with ⟨g0, g1, g2⟩ | ⟨g0, g3, g1, g2⟩ | ⟨g0, g3, g4, g1, g2⟩ | ⟨g0, g3, g4, g2, r2, g5, g1⟩
  all_goals first | (exact ⟨h1.trans g1.symm, h2.trans g2.symm⟩) | (exfalso; omega) | (refine ⟨?_, h2.trans g2.symm⟩; rw [h1, g1, h5.one g5]) | (rw [h3] at g3; cases g3)
theorem squant_any (A : Option Addr) (n c : Nat) (l : List Nat) (th : Int) (w : World) (hl : FRow w w.heap.size A n l) (hn : n * 8 ≤ 140737488355328) (ht0 : -9223372036854775808 ≤ th) (ht1 : th ≤ 9223372036854775807) :
    Calls Tryd.prog 26 #[.slice A n c, .int .i64 th] w fun e w' => ∃ q er, e = .returned (.tuple #[.float .f64 q, .int .i64 er]) ∧ QuantV l n th q er ∧ Below w.heap.size w w' := by
  have CT := Lib.hid (contains_any A n c l w hl (by omega))
  by_cases hlo : th < 0
  · clear hl CT
    go_enter Tryd.func26, Tryd.ntmps26
    go_wp2_with (fail)
    go_ret2
    exact ⟨_, _, rfl, .inl ⟨.inl hlo, rfl, rfl⟩, Below.refl _ _⟩
  · by_cases hhi : 1000 < th
    · clear hl CT
      go_enter Tryd.func26, Tryd.ntmps26
      go_wp2_with (fail)
      go_ret2
      exact ⟨_, _, rfl, .inl ⟨.inr hhi, rfl, rfl⟩, Below.refl _ _⟩
    · have hr : 0 ≤ th ∧ th ≤ 1000 := by omega
      have HR := Lib.hid hr
      clear hr
      cases hnan : nanIn l n
      · have HN := Lib.hid hnan
        rw [hnan] at CT
        clear hnan
        by_cases h0 : n = 0
        · subst h0
          clear hl
          go_enter Tryd.func26, Tryd.ntmps26
          go_wp2_with (go_at_call 42; refine CT.out.mono ?_; rintro e w' ⟨rfl, d, rfl⟩)
          go_ret2
          exact ⟨_, _, rfl, .inr (.inr (.inl ⟨HR.out, HN.out, rfl, rfl, rfl⟩)), below_drewN (Below.refl _ _) _⟩
        · obtain ⟨t, rfl⟩ : ∃ t : Nat, th = (t : Int) := ⟨th.toNat, by omega⟩
          have heq : ((n : Int) == 0) = false := by rw [beq_eq_false_iff_ne]; omega
          have SO := Lib.hid (fun d => sorted_any A n c l (w.drewN d) hl (.inr (by obtain ⟨b, off, e, _⟩ := hl.2 (by omega); exact ⟨b, off, e⟩)) hn)
          obtain ⟨p, hp⟩ : ∃ p, p = t * n := ⟨_, rfl⟩
          have hpb : p ≤ 1000 * n := by rw [hp]; exact Nat.mul_le_mul_right _ (by omega)
          have hp2 : (t : Int) * (n : Int) = (p : Int) := by rw [hp, Int.natCast_mul]
          have hwp : IntKind.i64.wrap (p : Int) = (p : Int) := IntWalk.i64_in _ (by omega)
          obtain ⟨q, hq⟩ : ∃ q, q = p + 999 := ⟨_, rfl⟩
          have hq2 : (p : Int) + 999 = (q : Int) := by omega
          have hwq : IntKind.i64.wrap (q : Int) = (q : Int) := IntWalk.i64_in _ (by omega)
          obtain ⟨g, hg⟩ : ∃ g, g = q / 1000 := ⟨_, rfl⟩
          have hg2 : (q : Int).tdiv 1000 = (g : Int) := by rw [Int.tdiv_eq_ediv_of_nonneg (by omega)]; omega
          have hg3 : (q : Int) / 1000 = (g : Int) := by omega
          have hwg : IntKind.i64.wrap (g : Int) = (g : Int) := IntWalk.i64_in _ (by omega)
          obtain ⟨k, hk⟩ : ∃ k, k = max g 1 := ⟨_, rfl⟩
          obtain ⟨j, hj⟩ : ∃ j, j = k - 1 := ⟨_, rfl⟩
          have hj2 : (k : Int) - 1 = (j : Int) := by omega
          have hwj : IntKind.i64.wrap (j : Int) = (j : Int) := IntWalk.i64_in _ (by omega)
          have hjq : quaJ (t : Int) n = j := by unfold quaJ; rw [Int.toNat_natCast, ← hp, ← hq, ← hg, ← hk, ← hj]
          have hjn : j < n := by rw [← hjq]; exact quaJ_lt HR.out.2 (by omega)
          have HJ := Lib.hid hjq
          have HK := Lib.hid hk
          clear hl hp hq hg hpb hjq hj
          have hmx : max (g : Int) 1 = (k : Int) := by omega
          clear hk
          go_enter Tryd.func26, Tryd.ntmps26
          go_wp2_with (go_at_call 42; refine CT.out.mono ?_; rintro e w' ⟨rfl, d, rfl⟩)
          refine (SO.out d).mono ?_
          rintro e w1 ⟨A1, c1, r1, rfl, hso, hF, hb1⟩
          obtain ⟨b1, o1, rfl, _, hc1⟩ := hF.2 (by omega)
          have hcj := hc1 j hjn
          have HS := Lib.hid hso
          clear hF hc1 hso
          go_wp2_with (fail)
          go_ret2
          exact ⟨_, _, rfl, .inr (.inr (.inr ⟨HR.out, HN.out, by omega, rfl, r1, HS.out, by rw [HJ.out]⟩)), (below_drewN (Below.refl w.heap.size w) d).trans hb1⟩
      · rw [hnan] at CT
        have HN := Lib.hid hnan
        clear hnan hl
        go_enter Tryd.func26, Tryd.ntmps26
        go_wp2_with (go_at_call 42; refine CT.out.mono ?_; rintro e w' ⟨rfl, d, rfl⟩)
        go_ret2
        exact ⟨_, _, rfl, .inr (.inl ⟨HR.out, HN.out, rfl, rfl⟩), below_drewN (Below.refl _ _) _⟩
theorem rquant_any (A : Option Addr) (n c : Nat) (l : List Nat) (th : Int) (w : World) (hl : FRow w w.heap.size A n l) (hn : n * 8 ≤ 140737488355328) (ht0 : -9223372036854775808 ≤ th) (ht1 : th ≤ 9223372036854775807) :
    Calls Tryd.prog 27 #[.slice A n c, .int .i64 th] w fun e w' => ∃ q er, e = .returned (.tuple #[.float .f64 q, .int .i64 er]) ∧ QuantV l n th q er ∧ Below w.heap.size w w' := by
  have CT := Lib.hid (hasNaN_any A n c w.heap.size l w hl (by omega))
  by_cases hlo : th < 0
  · clear hl CT
    go_enter Tryd.func27, Tryd.ntmps27
    go_wp2_with (fail)
    go_ret2
    exact ⟨_, _, rfl, .inl ⟨.inl hlo, rfl, rfl⟩, Below.refl _ _⟩
  · by_cases hhi : 1000 < th
    · clear hl CT
      go_enter Tryd.func27, Tryd.ntmps27
      go_wp2_with (fail)
      go_ret2
      exact ⟨_, _, rfl, .inl ⟨.inr hhi, rfl, rfl⟩, Below.refl _ _⟩
    · have hr : 0 ≤ th ∧ th ≤ 1000 := by omega
      have HR := Lib.hid hr
      clear hr
      cases hnan : nanIn l n
      · have HN := Lib.hid hnan
        rw [hnan] at CT
        clear hnan
        by_cases h0 : n = 0
        · subst h0
          clear hl
          go_enter Tryd.func27, Tryd.ntmps27
          go_wp2_with (go_at_call 44; refine CT.out.mono ?_; rintro e w' ⟨rfl, rfl⟩)
          go_ret2
          exact ⟨_, _, rfl, .inr (.inr (.inl ⟨HR.out, HN.out, rfl, rfl, rfl⟩)), Below.refl _ _⟩
        · obtain ⟨t, rfl⟩ : ∃ t : Nat, th = (t : Int) := ⟨th.toNat, by omega⟩
          have heq : ((n : Int) == 0) = false := by rw [beq_eq_false_iff_ne]; omega
          have SO := Lib.hid (fun d => rsorted_any A n c l (w.drewN d) hl hn)
          obtain ⟨p, hp⟩ : ∃ p, p = t * n := ⟨_, rfl⟩
          have hpb : p ≤ 1000 * n := by rw [hp]; exact Nat.mul_le_mul_right _ (by omega)
          have hp2 : (t : Int) * (n : Int) = (p : Int) := by rw [hp, Int.natCast_mul]
          have hwp : IntKind.i64.wrap (p : Int) = (p : Int) := IntWalk.i64_in _ (by omega)
          obtain ⟨q, hq⟩ : ∃ q, q = p + 999 := ⟨_, rfl⟩
          have hq2 : (p : Int) + 999 = (q : Int) := by omega
          have hwq : IntKind.i64.wrap (q : Int) = (q : Int) := IntWalk.i64_in _ (by omega)
          obtain ⟨g, hg⟩ : ∃ g, g = q / 1000 := ⟨_, rfl⟩
          have hg2 : (q : Int).tdiv 1000 = (g : Int) := by rw [Int.tdiv_eq_ediv_of_nonneg (by omega)]; omega
          have hg3 : (q : Int) / 1000 = (g : Int) := by omega
          have hwg : IntKind.i64.wrap (g : Int) = (g : Int) := IntWalk.i64_in _ (by omega)
          obtain ⟨k, hk⟩ : ∃ k, k = max g 1 := ⟨_, rfl⟩
          obtain ⟨j, hj⟩ : ∃ j, j = k - 1 := ⟨_, rfl⟩
          have hj2 : (k : Int) - 1 = (j : Int) := by omega
          have hwj : IntKind.i64.wrap (j : Int) = (j : Int) := IntWalk.i64_in _ (by omega)
          have hjq : quaJ (t : Int) n = j := by unfold quaJ; rw [Int.toNat_natCast, ← hp, ← hq, ← hg, ← hk, ← hj]
          have hjn : j < n := by rw [← hjq]; exact quaJ_lt HR.out.2 (by omega)
          have HJ := Lib.hid hjq
          have HK := Lib.hid hk
          clear hl hp hq hg hpb hjq hj
          by_cases hg1 : g < 1
          · obtain rfl : k = 1 := by omega
            obtain rfl : j = 0 := by omega
            clear hk hj2 hwj
            go_enter Tryd.func27, Tryd.ntmps27
            go_wp2_with (go_at_call 44; refine CT.out.mono ?_; rintro e w' ⟨rfl, rfl⟩)
            refine (SO.out 0).mono ?_
            rintro e w1 ⟨A1, c1, r1, rfl, hso, hF, hb1⟩
            obtain ⟨b1, o1, rfl, _, hc1⟩ := hF.2 (by omega)
            have hcj := hc1 0 hjn
            simp only [Nat.add_zero] at hcj
            have HS := Lib.hid hso
            clear hF hc1 hso
            go_wp2_with (fail)
            go_ret2
            exact ⟨_, _, rfl, .inr (.inr (.inr ⟨HR.out, HN.out, by omega, rfl, r1, HS.out, by rw [HJ.out]⟩)), hb1⟩
          · obtain rfl : k = g := by omega
            clear hk
            go_enter Tryd.func27, Tryd.ntmps27
            go_wp2_with (go_at_call 44; refine CT.out.mono ?_; rintro e w' ⟨rfl, rfl⟩)
            refine (SO.out 0).mono ?_
            rintro e w1 ⟨A1, c1, r1, rfl, hso, hF, hb1⟩
            obtain ⟨b1, o1, rfl, _, hc1⟩ := hF.2 (by omega)
            have hcj := hc1 j hjn
            have HS := Lib.hid hso
            clear hF hc1 hso
            go_wp2_with (fail)
            go_ret2
            exact ⟨_, _, rfl, .inr (.inr (.inr ⟨HR.out, HN.out, by omega, rfl, r1, HS.out, by rw [HJ.out]⟩)), hb1⟩
      · rw [hnan] at CT
        have HN := Lib.hid hnan
        clear hnan hl
        go_enter Tryd.func27, Tryd.ntmps27
        go_wp2_with (go_at_call 44; refine CT.out.mono ?_; rintro e w' ⟨rfl, rfl⟩)
        go_ret2
        exact ⟨_, _, rfl, .inr (.inl ⟨HR.out, HN.out, rfl, rfl⟩), Below.refl _ _⟩

end Go.Proofs.YtjcgachdnkdamaaDoor
