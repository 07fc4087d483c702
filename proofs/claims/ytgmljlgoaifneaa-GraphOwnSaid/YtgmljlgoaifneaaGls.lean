/- The walk of the search for a link in graphs. Conditions: as each theorem's hypotheses say. -/
import Derived.Test.YtgmljlgoaifneaaGpf
import Derived.Test.YtgmljlgoaifneaaGow
import Derived.Test.YtgmljlgoaifneaaGcp
import Derived.BigQuiet
namespace Go.Proofs.Ytgmljlgoaifneaa
open Go.RowKit Flt Go.Mem Go.Lib
set_option linter.unusedVariables false

set_option maxHeartbeats 1600000
/-- the links rise -/
def RiseL (ls : List Lk) : Prop := ∀ i j, i < j → j < ls.length → lkLt (lkA ls i) (lkA ls j) = true
/-- how many links stand ahead of one; is there one of the same two -/
def cntL (ls : List Lk) (t : Lk) : Nat := ls.countP fun y => lkLt y t
def hasL (ls : List Lk) (t : Lk) : Bool := ls.any fun y => decide (y.a = t.a) && decide (y.b = t.b)
theorem hasL_iff {ls : List Lk} {t : Lk} : hasL ls t = true ↔ ∃ i, i < ls.length ∧ (lkA ls i).a = t.a ∧ (lkA ls i).b = t.b := by
  unfold hasL
  rw [List.any_eq_true]
  constructor
  · rintro ⟨y, hy, h⟩
    obtain ⟨i, hi, rfl⟩ := List.getElem_of_mem hy
    refine ⟨i, hi, ?_⟩
    rw [lkA_get hi]; simpa using h
  · rintro ⟨i, hi, h⟩
    rw [lkA_get hi] at h
    exact ⟨_, List.getElem_mem hi, by simpa using h⟩
theorem Good.RiseL {ns : List Nd} {ls : List Lk} (h : Good ns ls) : RiseL ls := fun i j hij hj => by
  have := List.pairwise_iff_getElem.1 h.lrise i j (by omega) hj hij
  rw [lkA_get (by omega), lkA_get hj]; exact this
theorem lkLt_of_le {x y z : Lk} (h : lkLt x y = true) (g : ¬ lkLt z y = true) : lkLt x z = true := by rw [lkLt_iff] at *; omega
theorem lkLe_of_lt {x y z : Lk} (h : ¬ lkLt x y = true) (g : lkLt x z = true) : ¬ lkLt z y = true := by rw [lkLt_iff] at *; omega
theorem bl_end {t : Lk} : ∀ {ls : List Lk} {i : Nat}, i ≤ ls.length → (∀ k, k < i → lkLt (lkA ls k) t = true) → (∀ k, i ≤ k → k < ls.length → ¬ lkLt (lkA ls k) t = true) → cntL ls t = i := by
  intro ls
  induction ls with
  | nil => intro i hi _ _; simp at hi; subst hi; rfl
  | cons x ls ih =>
    intro i hi h1 h2
    have e0 : lkA (x :: ls) 0 = x := rfl
    have es : ∀ k, lkA (x :: ls) (k + 1) = lkA ls k := fun k => rfl
    unfold cntL
    cases i with
    | zero =>
      have hx := h2 0 (Nat.le_refl _) (by simp)
      rw [e0] at hx
      rw [List.countP_cons_of_neg (p := fun y => lkLt y t) hx]
      exact ih (i := 0) (Nat.zero_le _) (fun k hk => absurd hk (Nat.not_lt_zero _)) fun k _ hk => by
        have := h2 (k + 1) (Nat.zero_le _) (by simpa using hk)
        rw [es] at this; exact this
    | succ i =>
      have hx := h1 0 (Nat.succ_pos _)
      rw [e0] at hx
      rw [List.countP_cons_of_pos (p := fun y => lkLt y t) hx]
      congr 1
      refine ih (i := i) (by simpa using hi) (fun k hk => ?_) fun k k0 hk => ?_
      · have := h1 (k + 1) (by omega)
        rw [es] at this; exact this
      · have := h2 (k + 1) (by omega) (by simpa using hk)
        rw [es] at this; exact this
theorem bl_has {ls : List Lk} {t : Lk} {i : Nat} (hr : RiseL ls) (h1 : ∀ k, k < i → lkLt (lkA ls k) t = true) (h2 : ∀ k, i ≤ k → k < ls.length → ¬ lkLt (lkA ls k) t = true) : hasL ls t = true ↔ i < ls.length ∧ (lkA ls i).a = t.a ∧ (lkA ls i).b = t.b := by
  rw [hasL_iff]
  constructor
  · rintro ⟨k, hk, e⟩
    by_cases hki : k < i
    · have := h1 k hki; rw [lkLt_iff] at this; omega
    · by_cases e2 : k = i
      · subst e2; exact ⟨hk, e⟩
      · have a := hr i k (by omega) hk
        have b := h2 i (Nat.le_refl _) (by omega)
        rw [lkLt_iff] at a b
        omega
  · rintro ⟨h, e⟩; exact ⟨i, h, e⟩
theorem heldB8 {w0 w : World} {b0 b1 b2 b3 b4 b5 b6 b7 : Addr} {v0 v1 v2 v3 v4 v5 v6 v7 : Value} (h : w.cell? b0 = some v0 ∧ w.cell? b1 = some v1 ∧ w.cell? b2 = some v2 ∧ w.cell? b3 = some v3 ∧ w.cell? b4 = some v4 ∧ w.cell? b5 = some v5 ∧ w.cell? b6 = some v6 ∧ w.cell? b7 = some v7 ∧ Below w0.heap.size w0 w) : Below w0.heap.size w0 w := h.2.2.2.2.2.2.2.2
theorem held_keep8 {w0 w w' : World} {b0 b1 b2 b3 b4 b5 b6 b7 : Addr} {v0 v1 v2 v3 v4 v5 v6 v7 : Value} (h : w.cell? b0 = some v0 ∧ w.cell? b1 = some v1 ∧ w.cell? b2 = some v2 ∧ w.cell? b3 = some v3 ∧ w.cell? b4 = some v4 ∧ w.cell? b5 = some v5 ∧ w.cell? b6 = some v6 ∧ w.cell? b7 = some v7 ∧ Below w0.heap.size w0 w) (hb : Below w.heap.size w w') :
    w'.cell? b0 = some v0 ∧ w'.cell? b1 = some v1 ∧ w'.cell? b2 = some v2 ∧ w'.cell? b3 = some v3 ∧ w'.cell? b4 = some v4 ∧ w'.cell? b5 = some v5 ∧ w'.cell? b6 = some v6 ∧ w'.cell? b7 = some v7 ∧ Below w0.heap.size w0 w' :=
  ⟨keep_cellG h.1 hb, keep_cellG h.2.1 hb, keep_cellG h.2.2.1 hb, keep_cellG h.2.2.2.1 hb, keep_cellG h.2.2.2.2.1 hb, keep_cellG h.2.2.2.2.2.1 hb, keep_cellG h.2.2.2.2.2.2.1 hb, keep_cellG h.2.2.2.2.2.2.2.1 hb, h.2.2.2.2.2.2.2.2.trans (hb.mono h.2.2.2.2.2.2.2.2.size)⟩
theorem bsL_any (A : Option Addr) (n c : Nat) (ls : List Lk) (ta tb : Int) (tw : Nat) (tu : Bool) (w : World) (hg : GL w w.heap.size A n ls) (hr : RiseL ls) (hn : n ≤ 1152921504606846976) :
    Calls Try.prog 102 #[.slice A n c, .agg #[.int .i64 ta, .int .i64 tb, .float .f64 tw, .bool tu], .func (.func 28) #[] #[]] w fun e w' => e = .returned (.tuple #[.int .i64 (cntL ls ⟨ta, tb, tw, tu⟩ : Nat), .bool (hasL ls ⟨ta, tb, tw, tu⟩)]) ∧ Below w.heap.size w w' := by
  obtain ⟨t, ht⟩ : ∃ t : Lk, t = ⟨ta, tb, tw, tu⟩ := ⟨_, rfl⟩
  rw [← ht]
  have HG := Lib.hid hg
  have HR := Lib.hid hr
  have HLEN := Lib.hid hg.1
  have OR := Lib.hid (fun (x : Lk) w' => by have q := order_any x ⟨ta, tb, tw, tu⟩ w'; rw [← ht] at q; exact q : ∀ (x : Lk) w', Calls Try.prog 28 #[lkV x, lkV t] w' fun e w2 => e = .returned (.int .i64 (ordZ x t)) ∧ Below w'.heap.size w' w2)
  have HT := Lib.hid ht
  have HTV := Lib.hid (show lkV t = .agg #[.int .i64 ta, .int .i64 tb, .float .f64 tw, .bool tu] by rw [ht]; rfl)
  clear hg hr ht
  go_enter Try.func102, Try.ntmps102
  have HB1 := Lib.hid ((Below.refl w.heap.size w).alloc (Nat.le_refl _) (.cells #[.int .i64 ta, .int .i64 tb, .float .f64 tw, .bool tu] 54))
  have hX := Go.heap_alloc_new w (.cells #[.int .i64 ta, .int .i64 tb, .float .f64 tw, .bool tu] 54)
  go_wp2_with (fail)
  generalize w.alloc (.cells #[.int .i64 ta, .int .i64 tb, .float .f64 tw, .bool tu] 54) = w1 at *
  have T0 := Lib.hid ((Go.cell_of_row w1 w.heap.size 0 _ _ _ hX).trans rfl : w1.cell? ⟨w.heap.size, 0, none⟩ = some (.int .i64 ta))
  have T1 := Lib.hid ((Go.cell_of_row w1 w.heap.size 1 _ _ _ hX).trans rfl : w1.cell? ⟨w.heap.size, 1, none⟩ = some (.int .i64 tb))
  have T2 := Lib.hid ((Go.cell_of_row w1 w.heap.size 2 _ _ _ hX).trans rfl : w1.cell? ⟨w.heap.size, 2, none⟩ = some (.float .f64 tw))
  have T3 := Lib.hid ((Go.cell_of_row w1 w.heap.size 3 _ _ _ hX).trans rfl : w1.cell? ⟨w.heap.size, 3, none⟩ = some (.bool tu))
  clear hX
  go_loopw [9, 10] (fun iv jv wr => ∃ i j : Nat, i ≤ j ∧ j ≤ n ∧ iv = .int .i64 i ∧ jv = .int .i64 j ∧ Hid (∀ k, k < i → lkLt (lkA ls k) t = true) ∧ Hid (∀ k, j ≤ k → k < n → ¬ lkLt (lkA ls k) t = true) ∧ Below w1.heap.size w1 wr) (fun iv jv _ => (intOf jv).toNat - (intOf iv).toNat)
  case atStart => exact ⟨0, n, Nat.zero_le _, Nat.le_refl _, rfl, rfl, Lib.hid (fun k hk => absurd hk (Nat.not_lt_zero _)), Lib.hid (fun k h0 h1 => by omega), Below.refl _ _⟩
  case round =>
    obtain ⟨i, j, hij, hjn, rfl, rfl, HA, HB, hbt⟩ := hrel
    obtain ⟨wa, rfl⟩ : ∃ wa : World, wa = wr := ⟨_, rfl⟩
    by_cases hlt : i < j
    · obtain ⟨q, hq⟩ : ∃ q, q = i + j := ⟨_, rfl⟩
      obtain ⟨h, hh⟩ : ∃ h, h = q / 2 := ⟨_, rfl⟩
      have hq2 : (i : Int) + (j : Int) = (q : Int) := by omega
      have hh2 : (q : Int) / 2 = (h : Int) := by omega
      have hwq : IntKind.i64.wrap (q : Int) = (q : Int) := IntWalk.i64_in _ (by omega)
      have hwq2 : IntKind.u64.wrap (q : Int) = (q : Int) := IntWalk.u64_in _ (by omega)
      have hwh : IntKind.i64.wrap (h : Int) = (h : Int) := IntWalk.i64_in _ (by omega)
      have hwh2 : IntKind.u64.wrap (h : Int) = (h : Int) := IntWalk.u64_in _ (by omega)
      have hh0 : i ≤ h := by omega
      have hh1 : h < j := by omega
      have hhN : h < n := by omega
      obtain ⟨b, off, rfl, hbl, hc⟩ := HG.out.at (by omega)
      obtain ⟨c0, c1, c2, c3⟩ := hc h hhN
      have HW := Lib.hid (HB1.out.trans (hbt.mono HB1.out.size))
      have d0 := (HW.out.cell (p := ⟨b, off + h * 4, none⟩) hbl).trans c0
      have d1 := (HW.out.cell (p := ⟨b, off + (h * 4 + 1), none⟩) hbl).trans c1
      have d2 := (HW.out.cell (p := ⟨b, off + (h * 4 + 2), none⟩) hbl).trans c2
      have d3 := (HW.out.cell (p := ⟨b, off + (h * 4 + 3), none⟩) hbl).trans c3
      rw [← Nat.add_assoc] at d1 d2 d3
      have HQ := Lib.hid hq
      have HH := Lib.hid hh
      have HB0 := Lib.hid hbt
      have t0 := keep_cellG T0.out hbt
      have t1 := keep_cellG T1.out hbt
      have t2 := keep_cellG T2.out hbt
      have t3 := keep_cellG T3.out hbt
      clear hq hh hc c0 c1 c2 c3 hbt
      obtain ⟨x, hx⟩ : ∃ x, x = lkA ls h := ⟨_, rfl⟩
      rw [← hx] at d0 d1 d2 d3
      have HX := Lib.hid hx
      have OX := Lib.hid (fun w' => (by have q := OR.out x w'; rw [HTV.out] at q; exact q : Calls Try.prog 28 #[.agg #[.int .i64 x.a, .int .i64 x.b, .float .f64 x.w, .bool x.up], .agg #[.int .i64 ta, .int .i64 tb, .float .f64 tw, .bool tu]] w' fun e w2 => e = .returned (.int .i64 (ordZ x t)) ∧ Below w'.heap.size w' w2))
      clear hx
      by_cases hc : lkLt x t = true
      · have hz : ordZ x t < 0 := ordZ_lt.2 hc
        have HC := Lib.hid hc
        clear hc
        go_wp2_with (fail)
        have hbr := (Below.refl wa.heap.size wa).drew
        go_region_held3 (fun w' => w'.cell? ⟨b, off + h * 4, none⟩ = some (.int .i64 x.a) ∧ w'.cell? ⟨b, off + h * 4 + 1, none⟩ = some (.int .i64 x.b) ∧ w'.cell? ⟨b, off + h * 4 + 2, none⟩ = some (.float .f64 x.w) ∧ w'.cell? ⟨b, off + h * 4 + 3, none⟩ = some (.bool x.up) ∧ w'.cell? ⟨w.heap.size, 0, none⟩ = some (.int .i64 ta) ∧ w'.cell? ⟨w.heap.size, 1, none⟩ = some (.int .i64 tb) ∧ w'.cell? ⟨w.heap.size, 2, none⟩ = some (.float .f64 tw) ∧ w'.cell? ⟨w.heap.size, 3, none⟩ = some (.bool tu) ∧ Below wa.heap.size wa w')
          (first | exact held_keep8 (by assumption) hb1 | exact ⟨d0, d1, d2, d3, t0, t1, t2, t3, hbr⟩ | go_keep)
          (first | (go_at_call 28; refine (OX.out _).mono ?_; rintro e w' ⟨rfl, hb1⟩))
        have HR8 := Lib.hid (heldB8 (by assumption))
        go_wp2_with (fail)
        go_roundw
        case rel => exact ⟨h + 1, j, by omega, hjn, by go_num, rfl, Lib.hid (fun k hk => by
          by_cases e : k = h
          · subst e; rw [← HX.out]; exact HC.out
          · by_cases hk2 : k < i
            · exact HA.out k hk2
            · have q := HR.out k h (by omega) (by rw [HLEN.out]; exact hhN)
              rw [← HX.out] at q
              exact lkLt_trans q HC.out), HB, HB0.out.trans (HR8.out.mono HB0.out.size)⟩
        case measure => simp [intOf]; omega
      · have hz : ¬ ordZ x t < 0 := fun h => hc (ordZ_lt.1 h)
        have HC := Lib.hid hc
        clear hc
        go_wp2_with (fail)
        have hbr := (Below.refl wa.heap.size wa).drew
        go_region_held3 (fun w' => w'.cell? ⟨b, off + h * 4, none⟩ = some (.int .i64 x.a) ∧ w'.cell? ⟨b, off + h * 4 + 1, none⟩ = some (.int .i64 x.b) ∧ w'.cell? ⟨b, off + h * 4 + 2, none⟩ = some (.float .f64 x.w) ∧ w'.cell? ⟨b, off + h * 4 + 3, none⟩ = some (.bool x.up) ∧ w'.cell? ⟨w.heap.size, 0, none⟩ = some (.int .i64 ta) ∧ w'.cell? ⟨w.heap.size, 1, none⟩ = some (.int .i64 tb) ∧ w'.cell? ⟨w.heap.size, 2, none⟩ = some (.float .f64 tw) ∧ w'.cell? ⟨w.heap.size, 3, none⟩ = some (.bool tu) ∧ Below wa.heap.size wa w')
          (first | exact held_keep8 (by assumption) hb1 | exact ⟨d0, d1, d2, d3, t0, t1, t2, t3, hbr⟩ | go_keep)
          (first | (go_at_call 28; refine (OX.out _).mono ?_; rintro e w' ⟨rfl, hb1⟩))
        have HR8 := Lib.hid (heldB8 (by assumption))
        go_wp2_with (fail)
        go_roundw
        case rel => exact ⟨i, h, by omega, by omega, rfl, rfl, HA, Lib.hid (fun k k0 k1 => by
          by_cases e : k = h
          · subst e; rw [← HX.out]; exact HC.out
          · by_cases hk2 : j ≤ k
            · exact HB.out k hk2 k1
            · have q := HR.out h k (by omega) (by rw [HLEN.out]; exact k1)
              rw [← HX.out] at q
              exact lkLe_of_lt HC.out q), HB0.out.trans (HR8.out.mono HB0.out.size)⟩
        case measure => simp [intOf]; omega
    · obtain rfl : i = j := by omega
      have E1 := bl_end (ls := ls) (t := t) (i := i) (by rw [HLEN.out]; exact hjn) HA.out (fun k k0 k1 => HB.out k k0 (by rw [← HLEN.out]; exact k1))
      have E2 := bl_has (ls := ls) (t := t) (i := i) HR.out HA.out (fun k k0 k1 => HB.out k k0 (by rw [← HLEN.out]; exact k1))
      rw [HLEN.out] at E2
      have HE1 := Lib.hid E1
      by_cases hin : i < n
      · obtain ⟨b, off, rfl, hbl, hc⟩ := HG.out.at (by omega)
        obtain ⟨c0, c1, c2, c3⟩ := hc i hin
        have HW := Lib.hid (HB1.out.trans (hbt.mono HB1.out.size))
        have d0 := (HW.out.cell (p := ⟨b, off + i * 4, none⟩) hbl).trans c0
        have d1 := (HW.out.cell (p := ⟨b, off + (i * 4 + 1), none⟩) hbl).trans c1
        have d2 := (HW.out.cell (p := ⟨b, off + (i * 4 + 2), none⟩) hbl).trans c2
        have d3 := (HW.out.cell (p := ⟨b, off + (i * 4 + 3), none⟩) hbl).trans c3
        rw [← Nat.add_assoc] at d1 d2 d3
        have HB0 := Lib.hid hbt
        have t0 := keep_cellG T0.out hbt
        have t1 := keep_cellG T1.out hbt
        have t2 := keep_cellG T2.out hbt
        have t3 := keep_cellG T3.out hbt
        clear hc c0 c1 c2 c3 hbt
        obtain ⟨x, hx⟩ : ∃ x, x = lkA ls i := ⟨_, rfl⟩
        rw [← hx] at d0 d1 d2 d3 E2
        have OX := Lib.hid (fun w' => (by have q := OR.out x w'; rw [HTV.out] at q; exact q : Calls Try.prog 28 #[.agg #[.int .i64 x.a, .int .i64 x.b, .float .f64 x.w, .bool x.up], .agg #[.int .i64 ta, .int .i64 tb, .float .f64 tw, .bool tu]] w' fun e w2 => e = .returned (.int .i64 (ordZ x t)) ∧ Below w'.heap.size w' w2))
        clear hx
        by_cases hxt : x.a = t.a ∧ x.b = t.b
        · have hz : ordZ x t = 0 := ordZ_eq.2 hxt
          have hT : hasL ls t = true := E2.2 ⟨hin, hxt⟩
          have HT := Lib.hid hT
          clear E1 E2 hT hxt
          go_wp2_with (fail)
          have hbr := (Below.refl wa.heap.size wa).drew
          go_region_held3 (fun w' => w'.cell? ⟨b, off + i * 4, none⟩ = some (.int .i64 x.a) ∧ w'.cell? ⟨b, off + i * 4 + 1, none⟩ = some (.int .i64 x.b) ∧ w'.cell? ⟨b, off + i * 4 + 2, none⟩ = some (.float .f64 x.w) ∧ w'.cell? ⟨b, off + i * 4 + 3, none⟩ = some (.bool x.up) ∧ w'.cell? ⟨w.heap.size, 0, none⟩ = some (.int .i64 ta) ∧ w'.cell? ⟨w.heap.size, 1, none⟩ = some (.int .i64 tb) ∧ w'.cell? ⟨w.heap.size, 2, none⟩ = some (.float .f64 tw) ∧ w'.cell? ⟨w.heap.size, 3, none⟩ = some (.bool tu) ∧ Below wa.heap.size wa w')
            (first | exact held_keep8 (by assumption) hb1 | exact ⟨d0, d1, d2, d3, t0, t1, t2, t3, hbr⟩ | go_keep)
            (first | (go_at_call 28; refine (OX.out _).mono ?_; rintro e w' ⟨rfl, hb1⟩))
          have HR8 := Lib.hid (heldB8 (by assumption))
          go_wp2_with (fail)
          go_ret2
          exact ⟨by rw [HE1.out, HT.out]; first | rfl | simp only [hz] | (simp; exact hz) | (simp; simpa using hz), HB1.out.trans ((HB0.out.trans (HR8.out.mono HB0.out.size)).mono HB1.out.size)⟩
        · have hz : (ordZ x t == 0) = false := by rw [beq_eq_false_iff_ne]; exact fun h => hxt (ordZ_eq.1 h)
          have hT : hasL ls t = false := by
            cases h : hasL ls t
            · rfl
            · exact absurd (E2.1 h).2 hxt
          have HT := Lib.hid hT
          clear E1 E2 hT hxt
          go_wp2_with (fail)
          have hbr := (Below.refl wa.heap.size wa).drew
          go_region_held3 (fun w' => w'.cell? ⟨b, off + i * 4, none⟩ = some (.int .i64 x.a) ∧ w'.cell? ⟨b, off + i * 4 + 1, none⟩ = some (.int .i64 x.b) ∧ w'.cell? ⟨b, off + i * 4 + 2, none⟩ = some (.float .f64 x.w) ∧ w'.cell? ⟨b, off + i * 4 + 3, none⟩ = some (.bool x.up) ∧ w'.cell? ⟨w.heap.size, 0, none⟩ = some (.int .i64 ta) ∧ w'.cell? ⟨w.heap.size, 1, none⟩ = some (.int .i64 tb) ∧ w'.cell? ⟨w.heap.size, 2, none⟩ = some (.float .f64 tw) ∧ w'.cell? ⟨w.heap.size, 3, none⟩ = some (.bool tu) ∧ Below wa.heap.size wa w')
            (first | exact held_keep8 (by assumption) hb1 | exact ⟨d0, d1, d2, d3, t0, t1, t2, t3, hbr⟩ | go_keep)
            (first | (go_at_call 28; refine (OX.out _).mono ?_; rintro e w' ⟨rfl, hb1⟩))
          have HR8 := Lib.hid (heldB8 (by assumption))
          go_wp2_with (fail)
          go_ret2
          exact ⟨by rw [HE1.out, HT.out]; first | rfl | simp only [hz] | (simp; exact beq_iff_eq.1 hz) | (simp; simpa using hz), HB1.out.trans ((HB0.out.trans (HR8.out.mono HB0.out.size)).mono HB1.out.size)⟩
      · have hT : hasL ls t = false := by
          cases h : hasL ls t
          · rfl
          · exact absurd (E2.1 h).1 hin
        have HT := Lib.hid hT
        clear E1 E2 hT
        have HBT := Lib.hid hbt
        have hbr := (Below.refl wa.heap.size wa).drew
        have hd : decide ((i : Int) < (n : Int)) = false := by simp; omega
        clear hbt
        go_wp2_with (fail)
        go_quiet (fail)
        go_wp2_with (fail)
        go_ret2
        exact ⟨by rw [HE1.out, HT.out]; first | rfl | (simp; omega) | simp [hin], HB1.out.trans (by first | exact HBT.out.mono HB1.out.size | exact (HBT.out.trans (hbr.mono HBT.out.size)).mono HB1.out.size | exact (below_drewN HBT.out _).mono HB1.out.size)⟩
/-- the lesser, the greater of two -/
def mnI (a b : Int) : Int := if b < a then b else a
def mxI (a b : Int) : Int := if a < b then b else a
/-- the link of two, as searched for -/
def lkT (a b : Int) : Lk := ⟨mnI a b, mxI a b, 0, false⟩
theorem link_any (A A2 : Option Addr) (n c m c2 : Nat) (ls : List Lk) (a b : Int) (w : World) (hg : GL w w.heap.size A2 m ls) (hr : RiseL ls) (hn : m ≤ 1152921504606846976) :
    Calls Try.prog 88 #[.agg #[.slice A n c, .slice A2 m c2], .int .i64 a, .int .i64 b] w fun e w' => e = .returned (.tuple #[.int .i64 (cntL ls (lkT a b) : Nat), .bool (hasL ls (lkT a b))]) ∧ Below w.heap.size w w' := by
  have BS := Lib.hid (fun w' (h : Below w.heap.size w w') => bsL_any A2 m c2 ls (mnI a b) (mxI a b) 0 false w' ((hg.below h).more h.size) hr hn)
  unfold lkT
  obtain ⟨mn, hmn⟩ : ∃ mn, mn = mnI a b := ⟨_, rfl⟩
  obtain ⟨mx, hmx⟩ : ∃ mx, mx = mxI a b := ⟨_, rfl⟩
  rw [← hmn, ← hmx] at BS ⊢
  have hmn' : (if b < a then b else a) = mn := hmn.symm
  have hmx' : (if a < b then b else a) = mx := hmx.symm
  clear hg hr hmn hmx
  go_enter Try.func88, Try.ntmps88
  have hb0 := fun o => (Below.refl w.heap.size w).alloc (Nat.le_refl _) o
  go_wp2_with (fail)
  refine (BS.out _ (by first | exact hb0 _ | exact (hb0 _).alloc (by simp) _)).mono ?_
  rintro e w' ⟨rfl, hb1⟩
  go_wp2
  go_ret2
  first
    | exact ⟨rfl, (hb0 _).trans (hb1.mono (hb0 _).size)⟩
    | exact ⟨rfl, ((hb0 _).alloc (by simp) _).trans (hb1.mono ((hb0 _).alloc (by simp) _).size)⟩

end Go.Proofs.Ytgmljlgoaifneaa
