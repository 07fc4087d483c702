/- The walks of Sum, program and reference, and of what they call. Conditions: the slice reads as the list of 64-bit words. -/
import Derived.Test.YtjcgachdnkdamaaDoorLeaf
import Derived.Test.YtjcgachdnkdamaaDoorSsp
import Derived.Test.YtjcgachdnkdamaaDoorStx
import Derived.Deep.QuietTactic
import Derived.BigQuiet
namespace Go.Proofs.YtjcgachdnkdamaaDoor
open Go.RowKit Flt Go.Mem

theorem quoNaN : True := trivial
set_option maxHeartbeats 400000 in
theorem nan_any (w : World) : Calls Tryd.prog 45 #[] w fun e w' => e = .returned (.float .f64 9221120237041090560) ∧ w' = w := by
  have hf := frombits_ext
  go_enter Tryd.func45, Tryd.ntmps45
  go_wp2
  go_ret
  exact ⟨rfl, rfl⟩
set_option maxHeartbeats 400000 in
theorem rNaN_any (w : World) : Calls Tryd.prog 46 #[] w fun e w' => e = .returned (.float .f64 9221120237041090560) ∧ w' = w := by
  have hf := frombits_ext
  go_enter Tryd.func46, Tryd.ntmps46
  go_wp2
  go_ret
  exact ⟨rfl, rfl⟩
set_option maxHeartbeats 400000 in
theorem told_any (v : Nat) (w : World) : Calls Tryd.prog 35 #[.float .f64 v] w fun e w' => e = .returned (.float .f64 (toldW v)) ∧ w' = w := by
  cases hn : isnan v <;> cases hz : feq v 0
  all_goals
    go_enter Tryd.func35, Tryd.ntmps35
    go_wp2_with (first | (go_at_call 28; refine (isnan_any _ _).mono ?_; rintro e w' ⟨rfl, rfl⟩) | (go_at_call 45; refine (nan_any _).mono ?_; rintro e w' ⟨rfl, rfl⟩))
    go_ret
    refine ⟨ret_float ?_, rfl⟩
    unfold toldW
    simp [hn, hz]
set_option maxHeartbeats 400000 in
theorem rtold_any (v : Nat) (w : World) : Calls Tryd.prog 50 #[.float .f64 v] w fun e w' => e = .returned (.float .f64 (toldW v)) ∧ w' = w := by
  cases hn : isnan v <;> cases hz : feq v 0
  all_goals
    go_enter Tryd.func50, Tryd.ntmps50
    go_wp2_with (first | (go_at_call 28; refine (isnan_any _ _).mono ?_; rintro e w' ⟨rfl, rfl⟩) | (go_at_call 46; refine (rNaN_any _).mono ?_; rintro e w' ⟨rfl, rfl⟩))
    go_ret
    refine ⟨ret_float ?_, rfl⟩
    unfold toldW
    simp [hn, hz]
set_option maxHeartbeats 400000 in
theorem odd_any (v : Nat) (w : World) (hv : v < 18446744073709551616) : Calls Tryd.prog 32 #[.float .f64 v] w fun e w' => e = .returned (.bool (isnan v || isinf v)) ∧ w' = w := by
  cases hn : isnan v <;> cases hi : isinf v
  all_goals
    go_enter Tryd.func32, Tryd.ntmps32
    go_wp2_with (first | (go_at_call 28; refine (isnan_any _ _).mono ?_; rintro e w' ⟨rfl, rfl⟩) | (go_at_call 36; refine (isinf0_any _ _ hv).mono ?_; rintro e w' ⟨rfl, rfl⟩))
    go_ret
    exact ⟨rfl, rfl⟩
set_option maxHeartbeats 400000 in
theorem finite_any (v : Nat) (w : World) (hv : v < 18446744073709551616) : Calls Tryd.prog 48 #[.float .f64 v] w fun e w' => e = .returned (.bool (!(isnan v || isinf v))) ∧ w' = w := by
  cases hn : isnan v <;> cases hi : isinf v
  all_goals
    go_enter Tryd.func48, Tryd.ntmps48
    go_wp2_with (first | (go_at_call 28; refine (isnan_any _ _).mono ?_; rintro e w' ⟨rfl, rfl⟩) | (go_at_call 36; refine (isinf0_any _ _ hv).mono ?_; rintro e w' ⟨rfl, rfl⟩))
    go_ret
    exact ⟨rfl, rfl⟩
theorem fat_lt {l : List Nat} (h : ∀ x ∈ l, x < 18446744073709551616) (k : Nat) : fat l k < 18446744073709551616 := by
  unfold fat
  rw [List.getD_eq_getElem?_getD]
  cases e : l[k]? with
  | none => exact (by decide : 0 < 18446744073709551616)
  | some x => exact h x (List.mem_of_getElem? e)
theorem fat_fin {l : List Nat} (h : ∀ x ∈ l, x < 18446744073709551616) (k : Nat) (h1 : isnan (fat l k) = false) (h2 : isinf (fat l k) = false) : fin (fat l k) := ⟨h1, h2, fat_lt h k⟩
set_option maxHeartbeats 1600000 in
theorem plain_any (A : Option Addr) (n c B : Nat) (l : List Nat) (w : World) (hl : FRow w B A n l) (hn : n ≤ 9223372036854775807) :
    Calls Tryd.prog 33 #[.slice A n c] w fun e w' => e = .returned (.float .f64 (plainS l n)) ∧ ∃ d, w' = w.drewN d := by
  go_enter Tryd.func33, Tryd.ntmps33
  go_wp2
  go_loopw [3, 8] (fun t i wr => ∃ k v d : Nat, k ≤ n ∧ i = .int .i64 k ∧ t = .float .f64 v ∧ RV v (plainTo l k) ∧ wr = w.drewN d) (fun _ i _ => n - (intOf i).toNat)
  case atStart => exact ⟨0, 0, 0, Nat.zero_le _, rfl, rfl, RV.some_ (by decide) (by decide), rfl⟩
  case round =>
    obtain ⟨k, v, d, hk, rfl, rfl, hv, rfl⟩ := hrel
    by_cases hkn : k < n
    · obtain ⟨b, off, rfl, _, hc⟩ := hl.2 (by omega)
      have hck := hc k hkn
      have hst : plainTo l (k + 1) = (plainTo l k).bind (Ieee.double.add · (fat l k)) := rfl
      have HST := Lib.hid hst
      clear hc hl hst
      rcases hv.add (fat l k) with ⟨r, h1, h2, h3⟩ | ⟨h1, h2⟩
      · have hop : ∀ t w, (binOp .add t (.float .f64 v) (.float .f64 (fat l k))).run Tryd.prog w = .ok (.float .f64 r) w := fun t w => run_float_arith w .add t .f64 v _ r h1
        have H2 := Lib.hid h2
        clear h1 h2 hv
        go_wp2
        go_roundw
        case rel => exact ⟨k + 1, r, _, by omega, by go_num, rfl, by rw [HST.out, H2.out]; exact h3, rfl⟩
        case measure => simp [intOf]; omega
      · have hop : ∀ t w, (binOp .add t (.float .f64 v) (.float .f64 (fat l k))).run Tryd.prog w = .ok (.float .f64 (nanOf w v (fat l k))) w.drew := fun t w => run_float_nan w .add (.inl rfl) t v _ h1
        have H2 := Lib.hid h2
        clear h1 h2 hv
        go_wp2
        go_roundw
        case rel => exact ⟨k + 1, _, _, by omega, by go_num, rfl, by rw [HST.out, H2.out]; exact ⟨nanOf_lt _ _ _, nanOf_nan _ _ _⟩, rfl⟩
        case measure => simp [intOf]; omega
    · have hkn : k = n := by omega
      subst hkn
      clear hl
      go_wp2_with (go_at_call 35; refine (told_any _ _).mono ?_; rintro e w' ⟨rfl, rfl⟩)
      go_ret
      exact ⟨ret_float (by unfold plainS; exact hv.told), _, rfl⟩
set_option maxHeartbeats 1600000 in
theorem left_any (A : Option Addr) (n c B : Nat) (l : List Nat) (w : World) (hl : FRow w B A n l) (hn : n ≤ 9223372036854775807) :
    Calls Tryd.prog 49 #[.slice A n c] w fun e w' => e = .returned (.float .f64 (plainS l n)) ∧ ∃ d, w' = w.drewN d := by
  go_enter Tryd.func49, Tryd.ntmps49
  go_wp2
  go_loopw [3, 4] (fun t i wr => ∃ k v d : Nat, k ≤ n ∧ i = .int .i64 k ∧ t = .float .f64 v ∧ RV v (plainTo l k) ∧ wr = w.drewN d) (fun _ i _ => n - (intOf i).toNat)
  case atStart => exact ⟨0, 0, 0, Nat.zero_le _, rfl, rfl, RV.some_ (by decide) (by decide), rfl⟩
  case round =>
    obtain ⟨k, v, d, hk, rfl, rfl, hv, rfl⟩ := hrel
    by_cases hkn : k < n
    · obtain ⟨b, off, rfl, _, hc⟩ := hl.2 (by omega)
      have hck := hc k hkn
      have hst : plainTo l (k + 1) = (plainTo l k).bind (Ieee.double.add · (fat l k)) := rfl
      have HST := Lib.hid hst
      clear hc hl hst
      rcases hv.add (fat l k) with ⟨r, h1, h2, h3⟩ | ⟨h1, h2⟩
      · have hop : ∀ t w, (binOp .add t (.float .f64 v) (.float .f64 (fat l k))).run Tryd.prog w = .ok (.float .f64 r) w := fun t w => run_float_arith w .add t .f64 v _ r h1
        have H2 := Lib.hid h2
        clear h1 h2 hv
        go_wp2
        go_roundw
        case rel => exact ⟨k + 1, r, _, by omega, by go_num, rfl, by rw [HST.out, H2.out]; exact h3, rfl⟩
        case measure => simp [intOf]; omega
      · have hop : ∀ t w, (binOp .add t (.float .f64 v) (.float .f64 (fat l k))).run Tryd.prog w = .ok (.float .f64 (nanOf w v (fat l k))) w.drew := fun t w => run_float_nan w .add (.inl rfl) t v _ h1
        have H2 := Lib.hid h2
        clear h1 h2 hv
        go_wp2
        go_roundw
        case rel => exact ⟨k + 1, _, _, by omega, by go_num, rfl, by rw [HST.out, H2.out]; exact ⟨nanOf_lt _ _ _, nanOf_nan _ _ _⟩, rfl⟩
        case measure => simp [intOf]; omega
    · have hkn : k = n := by omega
      subst hkn
      clear hl
      go_wp2_with (go_at_call 50; refine (rtold_any _ _).mono ?_; rintro e w' ⟨rfl, rfl⟩)
      go_ret
      exact ⟨ret_float (by unfold plainS; exact hv.told), _, rfl⟩
theorem RV_addr {s v : Nat} {o : Option Nat} (h : RV v o) : (∃ r, Ieee.double.add s v = some r ∧ o.bind (Ieee.double.add s) = some r ∧ RV r (some r)) ∨ (Ieee.double.add s v = none ∧ o.bind (Ieee.double.add s) = none) := by
  obtain ⟨_, h⟩ := h
  cases o with
  | none => exact .inr ⟨nan_add_r _ h, rfl⟩
  | some b =>
    obtain ⟨rfl, _⟩ := h
    cases hr : Ieee.double.add s v with
    | none => exact .inr ⟨rfl, hr⟩
    | some r => exact .inl ⟨r, rfl, hr, add_lt64 hr, rfl, add_notnan hr⟩
theorem stepS_odd {s x : Nat} {c : Option Nat} (h : (isnan x || isinf x) = true) : stepS s c x = none := by unfold stepS; rw [if_pos h]
theorem stepS_inf {s x t : Nat} {c : Option Nat} (ht : Ieee.double.add s x = some t) (h : isinf t = true) : stepS s c x = none := by
  unfold stepS; split
  · rfl
  · rw [ht]; simp [h]
theorem stepS_go {s x t m : Nat} {c : Option Nat} (hx : (isnan x || isinf x) = false) (ht : Ieee.double.add s x = some t) (h : isinf t = false) (hm : midS s t x = some m) : stepS s c x = some (t, c.bind (Ieee.double.add · m)) := by
  unfold stepS; rw [if_neg (by rw [hx]; decide), ht]; simp [h, hm]
set_option maxHeartbeats 6400000 in
theorem sum_any (A : Option Addr) (n c B : Nat) (l : List Nat) (w : World) (hl : FRow w B A n l) (hn : n ≤ 9223372036854775807) (hlt : ∀ x ∈ l, x < 18446744073709551616) :
    Calls Tryd.prog 10 #[.slice A n c] w fun e w' => e = .returned (.float .f64 (sumS l n)) ∧ ∃ d, w' = w.drewN d := by
  have PL := fun d => Lib.hid (plain_any A n c B l (w.drewN d) (hl.drewN d) hn)
  go_enter Tryd.func10, Tryd.ntmps10
  go_wp2
  go_loopw [3, 4, 12] (fun s c i wr => ∃ (k sv cv d : Nat) (co : Option Nat), k ≤ n ∧ i = .int .i64 k ∧ s = .float .f64 sv ∧ c = .float .f64 cv ∧ Hid (sumTo l k = some (sv, co)) ∧ fin sv ∧ RV cv co ∧ wr = w.drewN d) (fun _ _ i _ => n - (intOf i).toNat)
  case atStart => exact ⟨0, 0, 0, 0, some 0, Nat.zero_le _, rfl, rfl, rfl, Lib.hid rfl, ⟨by decide, by decide, by decide⟩, RV.some_ (by decide) (by decide), rfl⟩
  case round =>
    obtain ⟨k, sv, cv, d, co, hk, rfl, rfl, rfl, HS, hs, hv, rfl⟩ := hrel
    by_cases hkn : k < n
    · obtain ⟨b, off, rfl, _, hc⟩ := hl.2 (by omega)
      have hck := hc k hkn
      have hx := fat_lt hlt k
      have hslt := hs.2.2
      have PL2 := PL d
      have PL3 := PL (d + 1)
      clear hc hl hlt PL
      generalize hxe : fat l k = x at *
      have HX := Lib.hid hxe
      clear hxe
      cases ho : (isnan x || isinf x) with
      | true =>
        have BAD := Lib.hid (show stepS sv co (fat l k) = none by rw [HX.out]; exact stepS_odd ho)
        have HSx := Lib.hid hs
        have HV := Lib.hid hv
        clear hs hv
        rcases (RV.some_ hslt HSx.out.1).add x with ⟨r, h1, _, h3⟩ | ⟨h1, _⟩
        · have hop : ∀ t w, (binOp .add t (.float .f64 sv) (.float .f64 x)).run Tryd.prog w = .ok (.float .f64 r) w := fun t w => run_float_arith w .add t .f64 sv _ r h1
          clear h1 h3
          go_wp2_with (first | (go_at_call 32; refine (odd_any _ _ (by first | assumption | exact nanOf_lt _ _ _)).mono ?_; rintro e w' ⟨rfl, rfl⟩) | (go_at_call 34; refine (abs_any _ _ (by assumption)).mono ?_; rintro e w' ⟨rfl, rfl⟩) | (go_at_call 33; first | (refine (PL2.out).mono ?_; rintro e w' ⟨rfl, d2, rfl⟩) | (refine (PL3.out).mono ?_; rintro e w' ⟨rfl, d2, rfl⟩)))
          go_ret
          exact ⟨ret_float (sumS_bad hkn HS.out BAD.out).symm, _, rfl⟩
        · have hop : ∀ t w, (binOp .add t (.float .f64 sv) (.float .f64 x)).run Tryd.prog w = .ok (.float .f64 (nanOf w sv x)) w.drew := fun t w => run_float_nan w .add (.inl rfl) t sv _ h1
          clear h1
          go_wp2_with (first | (go_at_call 32; refine (odd_any _ _ (by first | assumption | exact nanOf_lt _ _ _)).mono ?_; rintro e w' ⟨rfl, rfl⟩) | (go_at_call 34; refine (abs_any _ _ (by assumption)).mono ?_; rintro e w' ⟨rfl, rfl⟩) | (go_at_call 33; first | (refine (PL2.out).mono ?_; rintro e w' ⟨rfl, d2, rfl⟩) | (refine (PL3.out).mono ?_; rintro e w' ⟨rfl, d2, rfl⟩)))
          go_ret
          exact ⟨ret_float (sumS_bad hkn HS.out BAD.out).symm, _, rfl⟩
      | false =>
        have hnx : isnan x = false := by cases h : isnan x <;> simp [h] at ho ⊢
        have hix : isinf x = false := by cases h : isinf x <;> simp [h] at ho ⊢
        have hfx : fin x := ⟨hnx, hix, hx⟩
        obtain ⟨t, ht⟩ := add_some hs.1 hfx
        have hop : ∀ ty w, (binOp .add ty (.float .f64 sv) (.float .f64 x)).run Tryd.prog w = .ok (.float .f64 t) w := fun ty w => run_float_arith w .add ty .f64 sv _ t ht
        have htn := add_notnan ht
        have htl := add_lt64 ht
        cases hti : isinf t with
        | true =>
          have BAD := Lib.hid (show stepS sv co (fat l k) = none by rw [HX.out]; exact stepS_inf ht hti)
          have hto : (isnan t || isinf t) = true := by rw [hti]; simp
          have HSx := Lib.hid hs
          have HV := Lib.hid hv
          clear hs hv hfx ht hnx hix htn hti
          go_wp2_with (first | (go_at_call 32; refine (odd_any _ _ (by first | assumption | exact nanOf_lt _ _ _)).mono ?_; rintro e w' ⟨rfl, rfl⟩) | (go_at_call 34; refine (abs_any _ _ (by assumption)).mono ?_; rintro e w' ⟨rfl, rfl⟩) | (go_at_call 33; first | (refine (PL2.out).mono ?_; rintro e w' ⟨rfl, d2, rfl⟩) | (refine (PL3.out).mono ?_; rintro e w' ⟨rfl, d2, rfl⟩)))
          go_ret
          exact ⟨ret_float (sumS_bad hkn HS.out BAD.out).symm, _, rfl⟩
        | false =>
          have hto : (isnan t || isinf t) = false := by rw [htn, hti]; rfl
          have hft : fin t := ⟨htn, hti, htl⟩
          cases hg : (fgt (absW sv) (absW x) || feq (absW sv) (absW x)) with
          | true =>
            obtain ⟨e, he, hen, hel⟩ := sub_some hs hft
            obtain ⟨mm, hm⟩ := add_some hen hfx
            have hmid : midS sv t x = some mm := by unfold midS geB; rw [hg, he]; exact hm
            have GO := Lib.hid (show stepS sv co (fat l k) = some (t, co.bind (Ieee.double.add · mm)) by rw [HX.out]; exact stepS_go ho ht hti hmid)
            have hop2 : ∀ ty w, (binOp .sub ty (.float .f64 sv) (.float .f64 t)).run Tryd.prog w = .ok (.float .f64 e) w := fun ty w => run_float_arith w .sub ty .f64 sv _ e he
            have hop3 : ∀ ty w, (binOp .add ty (.float .f64 e) (.float .f64 x)).run Tryd.prog w = .ok (.float .f64 mm) w := fun ty w => run_float_arith w .add ty .f64 e _ mm hm
            have HFT := Lib.hid hft
            have HSx := Lib.hid hs
            clear hs hft hfx ht hnx hix htn hti he hen hm hmid hel
            rcases hv.add mm with ⟨r, h1, h2, h3⟩ | ⟨h1, h2⟩
            · have hop4 : ∀ ty w, (binOp .add ty (.float .f64 cv) (.float .f64 mm)).run Tryd.prog w = .ok (.float .f64 r) w := fun ty w => run_float_arith w .add ty .f64 cv _ r h1
              have H2 := Lib.hid h2
              clear h1 h2 hv
              go_wp2_with (first | (go_at_call 32; refine (odd_any _ _ (by first | assumption | exact nanOf_lt _ _ _)).mono ?_; rintro e w' ⟨rfl, rfl⟩) | (go_at_call 34; refine (abs_any _ _ (by assumption)).mono ?_; rintro e w' ⟨rfl, rfl⟩) | (go_at_call 33; first | (refine (PL2.out).mono ?_; rintro e w' ⟨rfl, d2, rfl⟩) | (refine (PL3.out).mono ?_; rintro e w' ⟨rfl, d2, rfl⟩)))
              go_roundw
              case rel => exact ⟨k + 1, t, r, _, _, by omega, by go_num, rfl, rfl, Lib.hid (sumTo_step HS.out GO.out), HFT.out, by rw [H2.out]; exact h3, rfl⟩
              case measure => simp [intOf]; omega
            · have hop4 : ∀ ty w, (binOp .add ty (.float .f64 cv) (.float .f64 mm)).run Tryd.prog w = .ok (.float .f64 (nanOf w cv mm)) w.drew := fun ty w => run_float_nan w .add (.inl rfl) ty cv _ h1
              have H2 := Lib.hid h2
              clear h1 h2 hv
              go_wp2_with (first | (go_at_call 32; refine (odd_any _ _ (by first | assumption | exact nanOf_lt _ _ _)).mono ?_; rintro e w' ⟨rfl, rfl⟩) | (go_at_call 34; refine (abs_any _ _ (by assumption)).mono ?_; rintro e w' ⟨rfl, rfl⟩) | (go_at_call 33; first | (refine (PL2.out).mono ?_; rintro e w' ⟨rfl, d2, rfl⟩) | (refine (PL3.out).mono ?_; rintro e w' ⟨rfl, d2, rfl⟩)))
              go_roundw
              case rel => exact ⟨k + 1, t, _, _, _, by omega, by go_num, rfl, rfl, Lib.hid (sumTo_step HS.out GO.out), HFT.out, by rw [H2.out]; exact ⟨nanOf_lt _ _ _, nanOf_nan _ _ _⟩, rfl⟩
              case measure => simp [intOf]; omega
          | false =>
            obtain ⟨e, he, hen, hel⟩ := sub_some hfx hft
            obtain ⟨mm, hm⟩ := add_some hen hs
            have hmid : midS sv t x = some mm := by unfold midS geB; rw [hg, he]; exact hm
            have GO := Lib.hid (show stepS sv co (fat l k) = some (t, co.bind (Ieee.double.add · mm)) by rw [HX.out]; exact stepS_go ho ht hti hmid)
            have hop2 : ∀ ty w, (binOp .sub ty (.float .f64 x) (.float .f64 t)).run Tryd.prog w = .ok (.float .f64 e) w := fun ty w => run_float_arith w .sub ty .f64 x _ e he
            have hop3 : ∀ ty w, (binOp .add ty (.float .f64 e) (.float .f64 sv)).run Tryd.prog w = .ok (.float .f64 mm) w := fun ty w => run_float_arith w .add ty .f64 e _ mm hm
            have HFT := Lib.hid hft
            have HSx := Lib.hid hs
            clear hs hft hfx ht hnx hix htn hti he hen hm hmid hel
            rcases hv.add mm with ⟨r, h1, h2, h3⟩ | ⟨h1, h2⟩
            · have hop4 : ∀ ty w, (binOp .add ty (.float .f64 cv) (.float .f64 mm)).run Tryd.prog w = .ok (.float .f64 r) w := fun ty w => run_float_arith w .add ty .f64 cv _ r h1
              have H2 := Lib.hid h2
              clear h1 h2 hv
              go_wp2_with (first | (go_at_call 32; refine (odd_any _ _ (by first | assumption | exact nanOf_lt _ _ _)).mono ?_; rintro e w' ⟨rfl, rfl⟩) | (go_at_call 34; refine (abs_any _ _ (by assumption)).mono ?_; rintro e w' ⟨rfl, rfl⟩) | (go_at_call 33; first | (refine (PL2.out).mono ?_; rintro e w' ⟨rfl, d2, rfl⟩) | (refine (PL3.out).mono ?_; rintro e w' ⟨rfl, d2, rfl⟩)))
              go_roundw
              case rel => exact ⟨k + 1, t, r, _, _, by omega, by go_num, rfl, rfl, Lib.hid (sumTo_step HS.out GO.out), HFT.out, by rw [H2.out]; exact h3, rfl⟩
              case measure => simp [intOf]; omega
            · have hop4 : ∀ ty w, (binOp .add ty (.float .f64 cv) (.float .f64 mm)).run Tryd.prog w = .ok (.float .f64 (nanOf w cv mm)) w.drew := fun ty w => run_float_nan w .add (.inl rfl) ty cv _ h1
              have H2 := Lib.hid h2
              clear h1 h2 hv
              go_wp2_with (first | (go_at_call 32; refine (odd_any _ _ (by first | assumption | exact nanOf_lt _ _ _)).mono ?_; rintro e w' ⟨rfl, rfl⟩) | (go_at_call 34; refine (abs_any _ _ (by assumption)).mono ?_; rintro e w' ⟨rfl, rfl⟩) | (go_at_call 33; first | (refine (PL2.out).mono ?_; rintro e w' ⟨rfl, d2, rfl⟩) | (refine (PL3.out).mono ?_; rintro e w' ⟨rfl, d2, rfl⟩)))
              go_roundw
              case rel => exact ⟨k + 1, t, _, _, _, by omega, by go_num, rfl, rfl, Lib.hid (sumTo_step HS.out GO.out), HFT.out, by rw [H2.out]; exact ⟨nanOf_lt _ _ _, nanOf_nan _ _ _⟩, rfl⟩
              case measure => simp [intOf]; omega
    · have hkn : k = n := by omega
      subst hkn
      clear hl hlt PL
      have HSx := Lib.hid hs
      clear hs
      rcases RV_addr (s := sv) hv with ⟨r, h1, h2, h3⟩ | ⟨h1, h2⟩
      · have hop : ∀ t w, (binOp .add t (.float .f64 sv) (.float .f64 cv)).run Tryd.prog w = .ok (.float .f64 r) w := fun t w => run_float_arith w .add t .f64 sv _ r h1
        have H2 := Lib.hid h2
        clear h1 h2 hv
        go_wp2_with (go_at_call 35; refine (told_any _ _).mono ?_; rintro e w' ⟨rfl, rfl⟩)
        go_ret
        exact ⟨ret_float (by unfold sumS; rw [HS.out]; simp only []; rw [H2.out]; exact h3.told), _, rfl⟩
      · have hop : ∀ t w, (binOp .add t (.float .f64 sv) (.float .f64 cv)).run Tryd.prog w = .ok (.float .f64 (nanOf w sv cv)) w.drew := fun t w => run_float_nan w .add (.inl rfl) t sv _ h1
        have H2 := Lib.hid h2
        clear h1 h2 hv
        go_wp2_with (go_at_call 35; refine (told_any _ _).mono ?_; rintro e w' ⟨rfl, rfl⟩)
        go_ret
        exact ⟨ret_float (by unfold sumS; rw [HS.out]; simp only []; rw [H2.out]; exact RV.told ⟨nanOf_lt _ _ _, nanOf_nan _ _ _⟩), _, rfl⟩
set_option maxHeartbeats 6400000 in
theorem rsum_any (A : Option Addr) (n c B : Nat) (l : List Nat) (w : World) (hl : FRow w B A n l) (hn : n ≤ 9223372036854775807) (hlt : ∀ x ∈ l, x < 18446744073709551616) :
    Calls Tryd.prog 22 #[.slice A n c] w fun e w' => e = .returned (.float .f64 (sumS l n)) ∧ ∃ d, w' = w.drewN d := by
  have PL := fun d => Lib.hid (left_any A n c B l (w.drewN d) (hl.drewN d) hn)
  go_enter Tryd.func22, Tryd.ntmps22
  go_wp2
  go_loopw [3, 4, 5] (fun s c i wr => ∃ (k sv cv d : Nat) (co : Option Nat), k ≤ n ∧ i = .int .i64 k ∧ s = .float .f64 sv ∧ c = .float .f64 cv ∧ Hid (sumTo l k = some (sv, co)) ∧ fin sv ∧ RV cv co ∧ wr = w.drewN d) (fun _ _ i _ => n - (intOf i).toNat)
  case atStart => exact ⟨0, 0, 0, 0, some 0, Nat.zero_le _, rfl, rfl, rfl, Lib.hid rfl, ⟨by decide, by decide, by decide⟩, RV.some_ (by decide) (by decide), rfl⟩
  case round =>
    obtain ⟨k, sv, cv, d, co, hk, rfl, rfl, rfl, HS, hs, hv, rfl⟩ := hrel
    by_cases hkn : k < n
    · obtain ⟨b, off, rfl, _, hc⟩ := hl.2 (by omega)
      have hck := hc k hkn
      have hx := fat_lt hlt k
      have hslt := hs.2.2
      have PL2 := PL d
      have PL3 := PL (d + 1)
      clear hc hl hlt PL
      generalize hxe : fat l k = x at *
      have HX := Lib.hid hxe
      clear hxe
      cases ho : (isnan x || isinf x) with
      | true =>
        have BAD := Lib.hid (show stepS sv co (fat l k) = none by rw [HX.out]; exact stepS_odd ho)
        have HSx := Lib.hid hs
        have HV := Lib.hid hv
        clear hs hv
        rcases (RV.some_ hslt HSx.out.1).add x with ⟨r, h1, _, h3⟩ | ⟨h1, _⟩
        · have hop : ∀ t w, (binOp .add t (.float .f64 sv) (.float .f64 x)).run Tryd.prog w = .ok (.float .f64 r) w := fun t w => run_float_arith w .add t .f64 sv _ r h1
          clear h1 h3
          go_wp2_with (first | (go_at_call 48; refine (finite_any _ _ (by first | assumption | exact nanOf_lt _ _ _)).mono ?_; rintro e w' ⟨rfl, rfl⟩) | (go_at_call 34; refine (abs_any _ _ (by assumption)).mono ?_; rintro e w' ⟨rfl, rfl⟩) | (go_at_call 49; first | (refine (PL2.out).mono ?_; rintro e w' ⟨rfl, d2, rfl⟩) | (refine (PL3.out).mono ?_; rintro e w' ⟨rfl, d2, rfl⟩)))
          go_ret
          exact ⟨ret_float (sumS_bad hkn HS.out BAD.out).symm, _, rfl⟩
        · have hop : ∀ t w, (binOp .add t (.float .f64 sv) (.float .f64 x)).run Tryd.prog w = .ok (.float .f64 (nanOf w sv x)) w.drew := fun t w => run_float_nan w .add (.inl rfl) t sv _ h1
          clear h1
          go_wp2_with (first | (go_at_call 48; refine (finite_any _ _ (by first | assumption | exact nanOf_lt _ _ _)).mono ?_; rintro e w' ⟨rfl, rfl⟩) | (go_at_call 34; refine (abs_any _ _ (by assumption)).mono ?_; rintro e w' ⟨rfl, rfl⟩) | (go_at_call 49; first | (refine (PL2.out).mono ?_; rintro e w' ⟨rfl, d2, rfl⟩) | (refine (PL3.out).mono ?_; rintro e w' ⟨rfl, d2, rfl⟩)))
          go_ret
          exact ⟨ret_float (sumS_bad hkn HS.out BAD.out).symm, _, rfl⟩
      | false =>
        have hnx : isnan x = false := by cases h : isnan x <;> simp [h] at ho ⊢
        have hix : isinf x = false := by cases h : isinf x <;> simp [h] at ho ⊢
        have hfx : fin x := ⟨hnx, hix, hx⟩
        obtain ⟨t, ht⟩ := add_some hs.1 hfx
        have hop : ∀ ty w, (binOp .add ty (.float .f64 sv) (.float .f64 x)).run Tryd.prog w = .ok (.float .f64 t) w := fun ty w => run_float_arith w .add ty .f64 sv _ t ht
        have htn := add_notnan ht
        have htl := add_lt64 ht
        cases hti : isinf t with
        | true =>
          have BAD := Lib.hid (show stepS sv co (fat l k) = none by rw [HX.out]; exact stepS_inf ht hti)
          have hto : (isnan t || isinf t) = true := by rw [hti]; simp
          have HSx := Lib.hid hs
          have HV := Lib.hid hv
          clear hs hv hfx ht hnx hix htn hti
          go_wp2_with (first | (go_at_call 48; refine (finite_any _ _ (by first | assumption | exact nanOf_lt _ _ _)).mono ?_; rintro e w' ⟨rfl, rfl⟩) | (go_at_call 34; refine (abs_any _ _ (by assumption)).mono ?_; rintro e w' ⟨rfl, rfl⟩) | (go_at_call 49; first | (refine (PL2.out).mono ?_; rintro e w' ⟨rfl, d2, rfl⟩) | (refine (PL3.out).mono ?_; rintro e w' ⟨rfl, d2, rfl⟩)))
          go_ret
          exact ⟨ret_float (sumS_bad hkn HS.out BAD.out).symm, _, rfl⟩
        | false =>
          have hto : (isnan t || isinf t) = false := by rw [htn, hti]; rfl
          have hft : fin t := ⟨htn, hti, htl⟩
          cases hg : (fgt (absW sv) (absW x) || feq (absW sv) (absW x)) with
          | true =>
            obtain ⟨e, he, hen, hel⟩ := sub_some hs hft
            obtain ⟨mm, hm⟩ := add_some hen hfx
            have hmid : midS sv t x = some mm := by unfold midS geB; rw [hg, he]; exact hm
            have GO := Lib.hid (show stepS sv co (fat l k) = some (t, co.bind (Ieee.double.add · mm)) by rw [HX.out]; exact stepS_go ho ht hti hmid)
            have hop2 : ∀ ty w, (binOp .sub ty (.float .f64 sv) (.float .f64 t)).run Tryd.prog w = .ok (.float .f64 e) w := fun ty w => run_float_arith w .sub ty .f64 sv _ e he
            have hop3 : ∀ ty w, (binOp .add ty (.float .f64 e) (.float .f64 x)).run Tryd.prog w = .ok (.float .f64 mm) w := fun ty w => run_float_arith w .add ty .f64 e _ mm hm
            have HFT := Lib.hid hft
            have HSx := Lib.hid hs
            clear hs hft hfx ht hnx hix htn hti he hen hm hmid hel
            rcases hv.add mm with ⟨r, h1, h2, h3⟩ | ⟨h1, h2⟩
            · have hop4 : ∀ ty w, (binOp .add ty (.float .f64 cv) (.float .f64 mm)).run Tryd.prog w = .ok (.float .f64 r) w := fun ty w => run_float_arith w .add ty .f64 cv _ r h1
              have H2 := Lib.hid h2
              clear h1 h2 hv
              go_wp2_with (first | (go_at_call 48; refine (finite_any _ _ (by first | assumption | exact nanOf_lt _ _ _)).mono ?_; rintro e w' ⟨rfl, rfl⟩) | (go_at_call 34; refine (abs_any _ _ (by assumption)).mono ?_; rintro e w' ⟨rfl, rfl⟩) | (go_at_call 49; first | (refine (PL2.out).mono ?_; rintro e w' ⟨rfl, d2, rfl⟩) | (refine (PL3.out).mono ?_; rintro e w' ⟨rfl, d2, rfl⟩)))
              go_roundw
              case rel => exact ⟨k + 1, t, r, _, _, by omega, by go_num, rfl, rfl, Lib.hid (sumTo_step HS.out GO.out), HFT.out, by rw [H2.out]; exact h3, rfl⟩
              case measure => simp [intOf]; omega
            · have hop4 : ∀ ty w, (binOp .add ty (.float .f64 cv) (.float .f64 mm)).run Tryd.prog w = .ok (.float .f64 (nanOf w cv mm)) w.drew := fun ty w => run_float_nan w .add (.inl rfl) ty cv _ h1
              have H2 := Lib.hid h2
              clear h1 h2 hv
              go_wp2_with (first | (go_at_call 48; refine (finite_any _ _ (by first | assumption | exact nanOf_lt _ _ _)).mono ?_; rintro e w' ⟨rfl, rfl⟩) | (go_at_call 34; refine (abs_any _ _ (by assumption)).mono ?_; rintro e w' ⟨rfl, rfl⟩) | (go_at_call 49; first | (refine (PL2.out).mono ?_; rintro e w' ⟨rfl, d2, rfl⟩) | (refine (PL3.out).mono ?_; rintro e w' ⟨rfl, d2, rfl⟩)))
              go_roundw
              case rel => exact ⟨k + 1, t, _, _, _, by omega, by go_num, rfl, rfl, Lib.hid (sumTo_step HS.out GO.out), HFT.out, by rw [H2.out]; exact ⟨nanOf_lt _ _ _, nanOf_nan _ _ _⟩, rfl⟩
              case measure => simp [intOf]; omega
          | false =>
            obtain ⟨e, he, hen, hel⟩ := sub_some hfx hft
            obtain ⟨mm, hm⟩ := add_some hen hs
            have hmid : midS sv t x = some mm := by unfold midS geB; rw [hg, he]; exact hm
            have GO := Lib.hid (show stepS sv co (fat l k) = some (t, co.bind (Ieee.double.add · mm)) by rw [HX.out]; exact stepS_go ho ht hti hmid)
            have hop2 : ∀ ty w, (binOp .sub ty (.float .f64 x) (.float .f64 t)).run Tryd.prog w = .ok (.float .f64 e) w := fun ty w => run_float_arith w .sub ty .f64 x _ e he
            have hop3 : ∀ ty w, (binOp .add ty (.float .f64 e) (.float .f64 sv)).run Tryd.prog w = .ok (.float .f64 mm) w := fun ty w => run_float_arith w .add ty .f64 e _ mm hm
            have HFT := Lib.hid hft
            have HSx := Lib.hid hs
            clear hs hft hfx ht hnx hix htn hti he hen hm hmid hel
            rcases hv.add mm with ⟨r, h1, h2, h3⟩ | ⟨h1, h2⟩
            · have hop4 : ∀ ty w, (binOp .add ty (.float .f64 cv) (.float .f64 mm)).run Tryd.prog w = .ok (.float .f64 r) w := fun ty w => run_float_arith w .add ty .f64 cv _ r h1
              have H2 := Lib.hid h2
              clear h1 h2 hv
              go_wp2_with (first | (go_at_call 48; refine (finite_any _ _ (by first | assumption | exact nanOf_lt _ _ _)).mono ?_; rintro e w' ⟨rfl, rfl⟩) | (go_at_call 34; refine (abs_any _ _ (by assumption)).mono ?_; rintro e w' ⟨rfl, rfl⟩) | (go_at_call 49; first | (refine (PL2.out).mono ?_; rintro e w' ⟨rfl, d2, rfl⟩) | (refine (PL3.out).mono ?_; rintro e w' ⟨rfl, d2, rfl⟩)))
              go_roundw
              case rel => exact ⟨k + 1, t, r, _, _, by omega, by go_num, rfl, rfl, Lib.hid (sumTo_step HS.out GO.out), HFT.out, by rw [H2.out]; exact h3, rfl⟩
              case measure => simp [intOf]; omega
            · have hop4 : ∀ ty w, (binOp .add ty (.float .f64 cv) (.float .f64 mm)).run Tryd.prog w = .ok (.float .f64 (nanOf w cv mm)) w.drew := fun ty w => run_float_nan w .add (.inl rfl) ty cv _ h1
              have H2 := Lib.hid h2
              clear h1 h2 hv
              go_wp2_with (first | (go_at_call 48; refine (finite_any _ _ (by first | assumption | exact nanOf_lt _ _ _)).mono ?_; rintro e w' ⟨rfl, rfl⟩) | (go_at_call 34; refine (abs_any _ _ (by assumption)).mono ?_; rintro e w' ⟨rfl, rfl⟩) | (go_at_call 49; first | (refine (PL2.out).mono ?_; rintro e w' ⟨rfl, d2, rfl⟩) | (refine (PL3.out).mono ?_; rintro e w' ⟨rfl, d2, rfl⟩)))
              go_roundw
              case rel => exact ⟨k + 1, t, _, _, _, by omega, by go_num, rfl, rfl, Lib.hid (sumTo_step HS.out GO.out), HFT.out, by rw [H2.out]; exact ⟨nanOf_lt _ _ _, nanOf_nan _ _ _⟩, rfl⟩
              case measure => simp [intOf]; omega
    · have hkn : k = n := by omega
      subst hkn
      clear hl hlt PL
      have HSx := Lib.hid hs
      clear hs
      rcases RV_addr (s := sv) hv with ⟨r, h1, h2, h3⟩ | ⟨h1, h2⟩
      · have hop : ∀ t w, (binOp .add t (.float .f64 sv) (.float .f64 cv)).run Tryd.prog w = .ok (.float .f64 r) w := fun t w => run_float_arith w .add t .f64 sv _ r h1
        have H2 := Lib.hid h2
        clear h1 h2 hv
        go_wp2_with (go_at_call 50; refine (rtold_any _ _).mono ?_; rintro e w' ⟨rfl, rfl⟩)
        go_ret
        exact ⟨ret_float (by unfold sumS; rw [HS.out]; simp only []; rw [H2.out]; exact h3.told), _, rfl⟩
      · have hop : ∀ t w, (binOp .add t (.float .f64 sv) (.float .f64 cv)).run Tryd.prog w = .ok (.float .f64 (nanOf w sv cv)) w.drew := fun t w => run_float_nan w .add (.inl rfl) t sv _ h1
        have H2 := Lib.hid h2
        clear h1 h2 hv
        go_wp2_with (go_at_call 50; refine (rtold_any _ _).mono ?_; rintro e w' ⟨rfl, rfl⟩)
        go_ret
        exact ⟨ret_float (by unfold sumS; rw [HS.out]; simp only []; rw [H2.out]; exact RV.told ⟨nanOf_lt _ _ _, nanOf_nan _ _ _⟩), _, rfl⟩

end Go.Proofs.YtjcgachdnkdamaaDoor
