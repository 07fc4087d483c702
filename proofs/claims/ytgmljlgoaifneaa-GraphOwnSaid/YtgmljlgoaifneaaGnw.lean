/- Searches in graphs: the walks of cmp.Compare at ints, of the search for a router, program and reference. Conditions: as each theorem's hypotheses say. -/
import Derived.Test.YtgmljlgoaifneaaGpl
import Derived.Test.YtgmljlgoaifneaaMet
import Derived.Test.YtgmljlgoaifneaaGen
import Derived.BigRegion
import Derived.BigQuiet
import Derived.IntWalk
import Derived.RegionTactic
import Derived.Deep.RegionWith
import Derived.Deep.RegionHeld3
namespace Go.Proofs.Ytgmljlgoaifneaa
open Go.RowKit Flt Go.Mem Go.Lib
set_option linter.unusedVariables false

set_option maxHeartbeats 1600000
/-- how two numbers stand -/
def cmpZ (x y : Int) : Int := if x < y then -1 else if y < x then 1 else 0
theorem cmpZ_lt {x y : Int} : cmpZ x y < 0 ↔ x < y := by unfold cmpZ; split <;> (try split) <;> omega
theorem cmpZ_eq {x y : Int} : cmpZ x y = 0 ↔ x = y := by unfold cmpZ; split <;> (try split) <;> omega
theorem compareI_any (x y : Int) (w : World) : Calls Try.prog 44 #[.int .i64 x, .int .i64 y] w fun e w' => e = .returned (.int .i64 (cmpZ x y)) ∧ w' = w := by
  rcases Int.lt_trichotomy x y with h | h | h
  · have e : cmpZ x y = -1 := by unfold cmpZ; rw [if_pos h]
    rw [e]
    go_enter Try.func44, Try.ntmps44
    go_wp2
    go_ret
    exact ⟨rfl, rfl⟩
  · subst h
    have e : cmpZ x x = 0 := by unfold cmpZ; rw [if_neg (Int.lt_irrefl _), if_neg (Int.lt_irrefl _)]
    rw [e]
    go_enter Try.func44, Try.ntmps44
    go_wp2
    go_ret
    exact ⟨rfl, rfl⟩
  · have h2 : ¬ x < y := by omega
    have e : cmpZ x y = 1 := by unfold cmpZ; rw [if_neg h2, if_pos h]
    rw [e]
    go_enter Try.func44, Try.ntmps44
    go_wp2
    go_ret
    exact ⟨rfl, rfl⟩
/-- a router as a value -/
def ndV (x : Nd) : Value := .agg #[.int .i64 x.id, .bool x.up, .bool x.mark]
def lkV (x : Lk) : Value := .agg #[.int .i64 x.a, .int .i64 x.b, .float .f64 x.w, .bool x.up]
theorem nodeCmp_any (i : Int) (u m : Bool) (t : Int) (w : World) : Calls Try.prog 46 #[.agg #[.int .i64 i, .bool u, .bool m], .int .i64 t] w fun e w' => e = .returned (.int .i64 (cmpZ i t)) ∧ Below w.heap.size w w' := by
  go_enter Try.func46, Try.ntmps46
  go_wp2_with (go_at_call 44; refine (compareI_any _ _ _).mono ?_; rintro e w' ⟨rfl, rfl⟩)
  go_ret
  exact ⟨rfl, (Below.refl _ _).alloc (Nat.le_refl _) _⟩
theorem bs_end {ns : List Nd} {t : Int} : ∀ {i : Nat}, i ≤ ns.length → (∀ k, k < i → (ndA ns k).id < t) → (∀ k, i ≤ k → k < ns.length → t ≤ (ndA ns k).id) → cntN ns t = i := by
  induction ns with
  | nil => intro i hi _ _; simp at hi; subst hi; rfl
  | cons x ns ih =>
    intro i hi h1 h2
    have e0 : ndA (x :: ns) 0 = x := rfl
    have es : ∀ k, ndA (x :: ns) (k + 1) = ndA ns k := fun k => rfl
    unfold cntN
    cases i with
    | zero =>
      have hx := h2 0 (Nat.le_refl _) (by simp)
      rw [e0] at hx
      rw [List.countP_cons_of_neg (by simpa using hx)]
      exact ih (i := 0) (Nat.zero_le _) (fun k hk => absurd hk (Nat.not_lt_zero _)) fun k _ hk => by
        have := h2 (k + 1) (Nat.zero_le _) (by simpa using hk)
        rw [es] at this; exact this
    | succ i =>
      have hx := h1 0 (Nat.succ_pos _)
      rw [e0] at hx
      rw [List.countP_cons_of_pos (by simpa using hx)]
      congr 1
      refine ih (i := i) (by simpa using hi) (fun k hk => ?_) fun k k0 hk => ?_
      · have := h1 (k + 1) (by omega)
        rw [es] at this; exact this
      · have := h2 (k + 1) (by omega) (by simpa using hk)
        rw [es] at this; exact this
theorem bs_has {ns : List Nd} {t : Int} {i : Nat} (hr : Rise ns) (h1 : ∀ k, k < i → (ndA ns k).id < t) (h2 : ∀ k, i ≤ k → k < ns.length → t ≤ (ndA ns k).id) : hasN ns t = true ↔ i < ns.length ∧ (ndA ns i).id = t := by
  rw [hasN_iff]
  constructor
  · rintro ⟨k, hk, e⟩
    by_cases hki : k < i
    · have := h1 k hki; omega
    · by_cases e2 : k = i
      · subst e2; exact ⟨hk, e⟩
      · have a := hr i k (by omega) hk
        have b := h2 i (Nat.le_refl _) (by omega)
        omega
  · rintro ⟨h, e⟩; exact ⟨i, h, e⟩
theorem bsN_any (A : Option Addr) (n c : Nat) (ns : List Nd) (t : Int) (w : World) (hg : GN w w.heap.size A n ns) (hr : Rise ns) (hn : n ≤ 1152921504606846976) :
    Calls Try.prog 45 #[.slice A n c, .int .i64 t, .func (.func 46) #[] #[]] w fun e w' => e = .returned (.tuple #[.int .i64 (cntN ns t : Nat), .bool (hasN ns t)]) ∧ Below w.heap.size w w' := by
  have HG := Lib.hid hg
  have HR := Lib.hid hr
  have HLEN := Lib.hid hg.1
  clear hg hr
  go_enter Try.func45, Try.ntmps45
  go_wp2_with (fail)
  go_loopw [9, 10] (fun iv jv wr => ∃ i j : Nat, i ≤ j ∧ j ≤ n ∧ iv = .int .i64 i ∧ jv = .int .i64 j ∧ Hid (∀ k, k < i → (ndA ns k).id < t) ∧ Hid (∀ k, j ≤ k → k < n → t ≤ (ndA ns k).id) ∧ Below w.heap.size w wr) (fun iv jv _ => (intOf jv).toNat - (intOf iv).toNat)
  case atStart => exact ⟨0, n, Nat.zero_le _, Nat.le_refl _, rfl, rfl, Lib.hid (fun k hk => absurd hk (Nat.not_lt_zero _)), Lib.hid (fun k h0 h1 => by omega), Below.refl _ _⟩
  case round =>
    obtain ⟨i, j, hij, hjn, rfl, rfl, HA, HB, hbt⟩ := hrel
    obtain ⟨wa, rfl⟩ : ∃ wa : World, wa = wr := ⟨_, rfl⟩
    by_cases hlt : i < j
    · obtain ⟨q, hq⟩ : ∃ q, q = i + j := ⟨_, rfl⟩
      obtain ⟨h, hh⟩ : ∃ h, h = q / 2 := ⟨_, rfl⟩
      have hq2 : (i : Int) + (j : Int) = (q : Int) := by omega
      have hh2 : (q : Int) / 2 = (h : Int) := by omega
      have hwq : IntKind.i64.wrap (q : Int) = (q : Int) := IntWalk.i64_in _ (by omega)
      have hwq2 : IntKind.u64.wrap (q : Int) = (q : Int) := IntWalk.u64_in _ (by omega)
      have hwh : IntKind.i64.wrap (h : Int) = (h : Int) := IntWalk.i64_in _ (by omega)
      have hwh2 : IntKind.u64.wrap (h : Int) = (h : Int) := IntWalk.u64_in _ (by omega)
      have hh0 : i ≤ h := by omega
      have hh1 : h < j := by omega
      have hhN : h < n := by omega
      obtain ⟨b, off, rfl, hbl, hc⟩ := HG.out.at (by omega)
      obtain ⟨c0, c1, c2⟩ := hc h hhN
      have d0 := (hbt.cell (p := ⟨b, off + h * 3, none⟩) hbl).trans c0
      have d1 := (hbt.cell (p := ⟨b, off + (h * 3 + 1), none⟩) hbl).trans c1
      have d2 := (hbt.cell (p := ⟨b, off + (h * 3 + 2), none⟩) hbl).trans c2
      rw [← Nat.add_assoc] at d1 d2
      have HQ := Lib.hid hq
      have HH := Lib.hid hh
      have HB0 := Lib.hid hbt
      clear hq hh hc c0 c1 c2 hbt
      obtain ⟨x, hx⟩ : ∃ x, x = (ndA ns h).id := ⟨_, rfl⟩
      rw [← hx] at d0
      have HX := Lib.hid hx
      clear hx
      by_cases hc : x < t
      · have hz : cmpZ x t < 0 := cmpZ_lt.2 hc
        go_wp2_with (go_at_call 46; refine (nodeCmp_any _ _ _ _ _).mono ?_; rintro e w' ⟨rfl, hb1⟩)
        go_roundw
        case rel => exact ⟨h + 1, j, by omega, hjn, by go_num, rfl, Lib.hid (fun k hk => by
          by_cases e : k = h
          · subst e; rw [← HX.out]; exact hc
          · by_cases hk2 : k < i
            · exact HA.out k hk2
            · have := HR.out k h (by omega) (by rw [HLEN.out]; exact hhN)
              have := HX.out
              omega), HB, HB0.out.trans (hb1.mono HB0.out.size)⟩
        case measure => simp [intOf]; omega
      · have hz : ¬ cmpZ x t < 0 := fun h => hc (cmpZ_lt.1 h)
        go_wp2_with (go_at_call 46; refine (nodeCmp_any _ _ _ _ _).mono ?_; rintro e w' ⟨rfl, hb1⟩)
        go_roundw
        case rel => exact ⟨i, h, by omega, by omega, rfl, rfl, HA, Lib.hid (fun k k0 k1 => by
          by_cases e : k = h
          · subst e; rw [← HX.out]; omega
          · by_cases hk2 : j ≤ k
            · exact HB.out k hk2 k1
            · have := HR.out h k (by omega) (by rw [HLEN.out]; exact k1)
              have := HX.out
              omega), HB0.out.trans (hb1.mono HB0.out.size)⟩
        case measure => simp [intOf]; omega
    · obtain rfl : i = j := by omega
      have E1 := bs_end (ns := ns) (t := t) (i := i) (by rw [HLEN.out]; exact hjn) HA.out (fun k k0 k1 => HB.out k k0 (by rw [← HLEN.out]; exact k1))
      have E2 := bs_has (ns := ns) (t := t) (i := i) HR.out HA.out (fun k k0 k1 => HB.out k k0 (by rw [← HLEN.out]; exact k1))
      rw [HLEN.out] at E2
      have HE1 := Lib.hid E1
      by_cases hin : i < n
      · obtain ⟨b, off, rfl, hbl, hc⟩ := HG.out.at (by omega)
        obtain ⟨c0, c1, c2⟩ := hc i hin
        have d0 := (hbt.cell (p := ⟨b, off + i * 3, none⟩) hbl).trans c0
        have d1 := (hbt.cell (p := ⟨b, off + (i * 3 + 1), none⟩) hbl).trans c1
        have d2 := (hbt.cell (p := ⟨b, off + (i * 3 + 2), none⟩) hbl).trans c2
        rw [← Nat.add_assoc] at d1 d2
        have HB0 := Lib.hid hbt
        clear hc c0 c1 c2 hbt
        obtain ⟨x, hx⟩ : ∃ x, x = (ndA ns i).id := ⟨_, rfl⟩
        rw [← hx] at d0 E2
        clear hx
        by_cases hxt : x = t
        · have hz : (cmpZ x t == 0) = true := by rw [beq_iff_eq]; exact cmpZ_eq.2 hxt
          have hT : hasN ns t = true := E2.2 ⟨hin, hxt⟩
          have HT := Lib.hid hT
          clear E1 E2 hT hxt
          go_wp2_with (go_at_call 46; refine (nodeCmp_any _ _ _ _ _).mono ?_; rintro e w' ⟨rfl, hb1⟩)
          go_ret2
          exact ⟨by rw [HE1.out, HT.out]; first | rfl | simp only [hz] | (simp; exact beq_iff_eq.1 hz) | (simp; simpa using hz), HB0.out.trans (hb1.mono HB0.out.size)⟩
        · have hz : (cmpZ x t == 0) = false := by rw [beq_eq_false_iff_ne]; exact fun h => hxt (cmpZ_eq.1 h)
          have hT : hasN ns t = false := by
            cases h : hasN ns t
            · rfl
            · exact absurd (E2.1 h).2 hxt
          have HT := Lib.hid hT
          clear E1 E2 hT hxt
          go_wp2_with (go_at_call 46; refine (nodeCmp_any _ _ _ _ _).mono ?_; rintro e w' ⟨rfl, hb1⟩)
          go_ret2
          exact ⟨by rw [HE1.out, HT.out]; first | rfl | simp only [hz] | (simp; exact beq_iff_eq.1 hz) | (simp; simpa using hz), HB0.out.trans (hb1.mono HB0.out.size)⟩
      · have hT : hasN ns t = false := by
          cases h : hasN ns t
          · rfl
          · exact absurd (E2.1 h).1 hin
        have HT := Lib.hid hT
        clear E1 E2 hT
        go_wp2_with (fail)
        go_ret2
        exact ⟨by rw [HE1.out, HT.out]; first | rfl | (simp; omega) | simp [hin], hbt⟩
theorem node_any (A A2 : Option Addr) (n c m c2 : Nat) (ns : List Nd) (t : Int) (w : World) (hg : GN w w.heap.size A n ns) (hr : Rise ns) (hn : n ≤ 1152921504606846976) :
    Calls Try.prog 27 #[.agg #[.slice A n c, .slice A2 m c2], .int .i64 t] w fun e w' => e = .returned (.tuple #[.int .i64 (cntN ns t : Nat), .bool (hasN ns t)]) ∧ Below w.heap.size w w' := by
  have BS := Lib.hid (fun w' (h : Below w.heap.size w w') => bsN_any A n c ns t w' ((hg.below h).more h.size) hr hn)
  clear hg hr
  go_enter Try.func27, Try.ntmps27
  have hb0 := fun o => (Below.refl w.heap.size w).alloc (Nat.le_refl _) o
  go_wp2_with (fail)
  refine (BS.out _ (hb0 _)).mono ?_
  rintro e w' ⟨rfl, hb1⟩
  go_wp2
  go_ret2
  exact ⟨rfl, (hb0 _).trans (hb1.mono (hb0 _).size)⟩

end Go.Proofs.Ytgmljlgoaifneaa
