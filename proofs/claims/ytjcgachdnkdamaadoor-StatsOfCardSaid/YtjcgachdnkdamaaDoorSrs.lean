/- Quantiles rise, lie in the list, and hang not on its order; the walk of the law on that. Conditions: lists of less than 2^45 floats; the library's table of powers of ten lies as its text lays it. -/
import Derived.Test.YtjcgachdnkdamaaDoorSqx
namespace Go.Proofs.YtjcgachdnkdamaaDoor
open Go.RowKit Flt Go.Mem Go.Lib
set_option linter.unusedVariables false

theorem rnk_at {f s : Nat → Nat} {n : Nat} (hs : Inc f s 0 n) (hs2 : ∀ i, i < n → s i < n) : ∀ k, k < n → rnk f n (s k) = k :=
  mono_id (n := n) (r := fun i => rnk f n (s i)) (fun i j h hj => (rnk_mono (hs i j (Nat.zero_le _) h hj) n).2 (hs2 i (by omega))) (fun i hi => rnk_lt n (hs2 i hi))
/-- how many of the first n stand before a place, or not behind it -/
def cl (f : Nat → Nat) (n : Nat) (v : Int) : Nat := ((List.range n).map f).countP fun b => decide (plc b < v)
def ce (f : Nat → Nat) (n : Nat) (v : Int) : Nat := ((List.range n).map f).countP fun b => decide (plc b ≤ v)
theorem cl_succ (f : Nat → Nat) (n : Nat) (v : Int) : cl f (n + 1) v = cl f n v + if plc (f n) < v then 1 else 0 := by
  unfold cl; rw [List.range_succ, List.map_append, List.countP_append]
  by_cases h : plc (f n) < v <;> simp [h]
theorem ce_succ (f : Nat → Nat) (n : Nat) (v : Int) : ce f (n + 1) v = ce f n v + if plc (f n) ≤ v then 1 else 0 := by
  unfold ce; rw [List.range_succ, List.map_append, List.countP_append]
  by_cases h : plc (f n) ≤ v <;> simp [h]
theorem cl_rnk (f : Nat → Nat) (x : Nat) : ∀ n, cl f n (plc (f x)) ≤ rnk f n x
  | 0 => Nat.le_refl _
  | n + 1 => by
    have ih := cl_rnk f x n
    rw [cl_succ]; unfold rnk
    by_cases h : plc (f n) < plc (f x)
    · rw [if_pos h, if_pos (show pre f n x from .inl h)]; omega
    · rw [if_neg h]; omega
theorem rnk_ce (f : Nat → Nat) (x : Nat) : ∀ n, (rnk f n x ≤ ce f n (plc (f x))) ∧ (x < n → rnk f n x + 1 ≤ ce f n (plc (f x)))
  | 0 => ⟨Nat.zero_le _, fun h => absurd h (Nat.not_lt_zero _)⟩
  | n + 1 => by
    have ih := rnk_ce f x n
    rw [ce_succ]; unfold rnk
    by_cases h : pre f n x
    · have hle : plc (f n) ≤ plc (f x) := by unfold pre at h; omega
      have hne : n ≠ x := fun e => pre_irr (e ▸ h)
      rw [if_pos h, if_pos hle]
      exact ⟨by have := ih.1; omega, fun hx => by have := ih.2 (by omega); omega⟩
    · rw [if_neg h]
      refine ⟨by have := ih.1; omega, fun hx => ?_⟩
      by_cases e : x = n
      · subst e; rw [if_pos (Int.le_refl _)]; have := ih.1; omega
      · have := ih.2 (by omega); omega
theorem ce_cl (f : Nat → Nat) {u v : Int} (h : u < v) : ∀ n, ce f n u ≤ cl f n v
  | 0 => Nat.le_refl _
  | n + 1 => by
    have ih := ce_cl f h n
    rw [ce_succ, cl_succ]
    by_cases h1 : plc (f n) ≤ u
    · rw [if_pos h1, if_pos (by omega)]; omega
    · rw [if_neg h1]; omega
theorem list_range {l : List Nat} {n : Nat} (h : l.length = n) : (List.range n).map (fat l) = l := by
  refine List.ext_getElem (by simp [h]) fun i i0 i1 => ?_
  rw [List.getElem_map, List.getElem_range, fat_of i1]
theorem fat_rev {l : List Nat} {n k : Nat} (h : l.length = n) (hk : k < n) : fat l.reverse k = fat l (n - 1 - k) := by
  rw [fat_of (by simp [h, hk]), fat_of (by omega), List.getElem_reverse]
  congr 1; omega
theorem rev_range {l : List Nat} {n : Nat} (h : l.length = n) : ((List.range n).map fun k => fat l (n - 1 - k)) = l.reverse := by
  refine List.ext_getElem (by simp [h]) fun i i0 i1 => ?_
  have hi : i < n := by simpa using i0
  rw [List.getElem_map, List.getElem_range, ← fat_of i1, fat_rev h hi]
theorem sorted_rev {l r r2 : List Nat} {n : Nat} (hl : l.length = n) (h : SortedOf l n r) (g : SortedOf l.reverse n r2) {k : Nat} (hk : k < n) : plc (fat r k) = plc (fat r2 k) := by
  obtain ⟨_, t, h1, h2, h3⟩ := h
  obtain ⟨_, u, g1, g2, g3⟩ := g
  rw [h3 k hk, g3 k hk]
  have eL : ∀ v, cl (fat l.reverse) n v = cl (fat l) n v := fun v => by
    unfold cl; rw [list_range hl, list_range (by simpa using hl), List.countP_reverse]
  have eE : ∀ v, ce (fat l.reverse) n v = ce (fat l) n v := fun v => by
    unfold ce; rw [list_range hl, list_range (by simpa using hl), List.countP_reverse]
  have a1 := rnk_at h1 h2 k hk
  have a2 := rnk_at g1 g2 k hk
  have b1 := cl_rnk (fat l) (t k) n
  have b2 := (rnk_ce (fat l) (t k) n).2 (h2 k hk)
  have c1 := cl_rnk (fat l.reverse) (u k) n
  have c2 := (rnk_ce (fat l.reverse) (u k) n).2 (g2 k hk)
  rw [eL] at c1
  rw [eE] at c2
  rcases Int.lt_trichotomy (plc (fat l (t k))) (plc (fat l.reverse (u k))) with h | h | h
  · have := ce_cl (fat l) h n; omega
  · exact h
  · have := ce_cl (fat l) h n; omega
theorem SortedOf.of {l r : List Nat} {n k : Nat} (h : SortedOf l n r) (hk : k < n) : ∃ j, j < n ∧ fat r k = fat l j := by
  obtain ⟨_, t, _, h2, h3⟩ := h
  exact ⟨t k, h2 k hk, h3 k hk⟩
theorem SortedOf.nan {l r : List Nat} {n k : Nat} (h : SortedOf l n r) (hn : nanIn l n = false) (hk : k < n) : isnan (fat r k) = false := by
  obtain ⟨j, hj, e⟩ := h.of hk
  rw [e]; exact nanIn_at hn hj
theorem SortedOf.le {l r : List Nat} {n i j : Nat} (h : SortedOf l n r) (hn : nanIn l n = false) (hij : i ≤ j) (hj : j < n) : (flt (fat r i) (fat r j) || feq (fat r i) (fat r j)) = true := by
  have n1 := h.nan hn (k := i) (by omega)
  have n2 := h.nan hn hj
  rw [flt_of n1 n2, feq_of n1 n2]
  have hle : key (fat r i) ≤ key (fat r j) := by
    by_cases e : i = j
    · subst e; exact Int.le_refl _
    · obtain ⟨_, t, h1, _, h3⟩ := h
      have hp := h1 i j (Nat.zero_le _) (by omega) hj
      rw [h3 i (by omega), h3 j hj] at *
      unfold pre plc at hp
      rw [n1, n2] at hp
      simp only [Bool.false_eq_true, if_false] at hp
      omega
  by_cases e : key (fat r i) = key (fat r j)
  · simp [e]
  · have : key (fat r i) < key (fat r j) := by omega
    simp [this]
theorem feq_plc {a b : Nat} (ha : isnan a = false) (hb : isnan b = false) (h : plc a = plc b) : feq a b = true := by
  unfold plc at h
  rw [ha, hb] at h
  rw [feq_of ha hb]
  simpa using h
theorem nanIn_rev {l : List Nat} {n : Nat} (hl : l.length = n) (h : nanIn l n = false) : nanIn l.reverse n = false := by
  refine nanIn_no fun i hi => ?_
  rw [fat_rev hl hi]; exact nanIn_at h (by omega)
theorem quaJ_mono {a b : Int} {n : Nat} (h : a ≤ b) : quaJ a n ≤ quaJ b n := by
  unfold quaJ
  have h1 : a.toNat * n ≤ b.toNat * n := Nat.mul_le_mul_right _ (by omega)
  generalize a.toNat * n = p at *
  generalize b.toNat * n = q at *
  omega
/-- which kind a quantile's answer is of -/
theorem QuantV.kind {l : List Nat} {n : Nat} {th : Int} {q : Nat} {er : Int} (h : QuantV l n th q er) : er = 1 ∨ er = 10 ∨ er = 4 ∨ (er = 0 ∧ (0 ≤ th ∧ th ≤ 1000) ∧ nanIn l n = false ∧ 0 < n ∧ ∃ r, SortedOf l n r ∧ q = fat r (quaJ th n)) := by
  rcases h with ⟨_, _, h⟩ | ⟨_, _, _, h⟩ | ⟨_, _, _, _, h⟩ | ⟨h0, h1, h2, h3, h4⟩
  · exact .inl h
  · exact .inr (.inl h)
  · exact .inr (.inr (.inl h))
  · exact .inr (.inr (.inr ⟨h3, h0, h1, h2, h4⟩))
theorem QuantV.ok {l : List Nat} {n : Nat} {th : Int} {q : Nat} {er : Int} (h : QuantV l n th q er) (h0 : 0 ≤ th ∧ th ≤ 1000) (h1 : nanIn l n = false) (h2 : 0 < n) : er = 0 ∧ ∃ r, SortedOf l n r ∧ q = fat r (quaJ th n) := by
  rcases h with ⟨g, _, _⟩ | ⟨_, g, _, _⟩ | ⟨_, _, g, _, _⟩ | ⟨_, _, _, g, k⟩
  · omega
  · rw [h1] at g; cases g
  · omega
  · exact ⟨g, k⟩
/-- all that the law asks -/
theorem rises_plain {l r r2 : List Nat} {n : Nat} {a b : Int} (hl : l.length = n) (hn : nanIn l n = false) (h0 : 0 < n) (hab : a ≤ b) (hb : b ≤ 1000) (h : SortedOf l n r) (g : SortedOf l.reverse n r2) :
    (flt (fat r (quaJ a n)) (fat r (quaJ b n)) || feq (fat r (quaJ a n)) (fat r (quaJ b n))) = true ∧ (∃ j, j < n ∧ feq (fat l j) (fat r (quaJ a n)) = true) ∧ feq (fat r2 (quaJ a n)) (fat r (quaJ a n)) = true ∧ isnan (fat r (quaJ a n)) = false := by
  have j1 := quaJ_lt (th := a) (by omega) h0
  have j2 := quaJ_lt hb h0
  have nx := h.nan hn j1
  refine ⟨h.le hn (quaJ_mono hab) j2, ?_, ?_, nx⟩
  · obtain ⟨j, hj, e⟩ := h.of j1
    exact ⟨j, hj, by rw [← e, feq_self, nx]; rfl⟩
  · exact feq_plc (g.nan (nanIn_rev hl hn) j1) nx (sorted_rev hl h g j1).symm
set_option maxHeartbeats 6400000
theorem rises_keep (A : Option Addr) (n c : Nat) (l : List Nat) (a b : Int) (w : World) (hx : FRow w w.heap.size A n l) (hxm : n * 8 ≤ 140737488355328) (hab : a ≤ b) (a0 : -9223372036854775808 ≤ a) (a1 : a ≤ 9223372036854775807) (b0 : -9223372036854775808 ≤ b) (b1 : b ≤ 9223372036854775807) (hp : Pow10 w) :
    Calls Tryd.prog 8 #[.slice A n c, .int .i64 a, .int .i64 b] w fun e w' => e = .returned (.bool true) ∧ Below w.heap.size w w' := by
  obtain ⟨iF, hiF, hzF0, hzF1, hzF2⟩ := info_parts infoF2
  have hlen := hx.1
  have O := Lib.hid (fun w' (hb : Below w.heap.size w w') => own2_any A n c l w w' hx hxm hb)
  have QU := Lib.hid (fun A' c' l' th w' (h : FRow w' w'.heap.size A' n l') h0 h1 => squant_any A' n c' l' th w' h hxm h0 h1)
  have AW := Lib.hid (fun w' (h : Below w.heap.size w w') => awake_any w' (hp.below h))
  have HX := Lib.hid hx
  have HA := Lib.hid (And.intro a0 a1)
  have HBB := Lib.hid (And.intro b0 b1)
  have HAB := Lib.hid hab
  have HLEN := Lib.hid hlen
  clear hx hp a0 a1 b0 b1 hlen
  go_enter Tryd.func8, Tryd.ntmps8
  go_wp2_with (fail)
  refine (O.out w (Below.refl _ _)).mono ?_
  rintro e w1 ⟨B1, d1, rfl, HF1, HK1, HB1⟩
  go_wp2_with (fail)
  refine (QU.out B1 d1 l a w1 HF1.out HA.out.1 HA.out.2).mono ?_
  rintro e w2 ⟨x, er, rfl, hq1, hb2⟩
  have HB2 := Lib.hid (HB1.out.trans (hb2.mono HB1.out.size))
  have HQ1 := Lib.hid hq1
  clear hq1 hb2 HF1 HK1 HB1
  go_wp2_with (fail)
  refine (O.out w2 HB2.out).mono ?_
  rintro e w3 ⟨B3, d3, rfl, HF3, HK3, HB3⟩
  go_wp2_with (fail)
  refine (QU.out B3 d3 l b w3 HF3.out HBB.out.1 HBB.out.2).mono ?_
  rintro e w4 ⟨y, er2, rfl, hq2, hb4⟩
  have HBX := Lib.hid (HB3.out.trans (hb4.mono HB3.out.size))
  have HQ2 := Lib.hid hq2
  clear hq2 hb4 HF3 HK3 HB3 HB2
  rcases HQ1.out.kind with rfl | rfl | rfl | ⟨rfl, hlo, hnn, hn0, r, hs, hxr⟩
  iterate 3
    · go_wp2_with (fail)
      refine (AW.out _ HBX.out).mono ?_
      rintro e w9 ⟨rfl, hba⟩
      have HBA := Lib.hid hba
      clear hba
      go_wp2
      go_ret
      exact ⟨rfl, HBX.out.trans (HBA.out.mono HBX.out.size)⟩

  · have HLOW := Lib.hid hlo
    have HNN := Lib.hid hnn
    have HS := Lib.hid hs
    have HXR := Lib.hid hxr
    clear hlo hnn hs hxr
    rcases HQ2.out.kind with rfl | rfl | rfl | ⟨rfl, hhi, _, _, r3, hs3, hyr⟩
    iterate 3
      · go_wp2_with (fail)
        refine (AW.out _ HBX.out).mono ?_
        rintro e w9 ⟨rfl, hba⟩
        have HBA := Lib.hid hba
        clear hba
        go_wp2
        go_ret
        exact ⟨rfl, HBX.out.trans (HBA.out.mono HBX.out.size)⟩

    · have HHIW := Lib.hid hhi
      have HS3 := Lib.hid hs3
      have HYR := Lib.hid hyr
      clear hhi hs3 hyr
      obtain ⟨p0, hp0⟩ : ∃ p, p = n - 1 := ⟨_, rfl⟩
      have hp02 : (n : Int) - 1 = (p0 : Int) := by omega
      have hwp0 : IntKind.i64.wrap (p0 : Int) = (p0 : Int) := IntWalk.i64_in _ (by omega)
      have HP0 := Lib.hid hp0
      clear hp0
      go_wp2_with (fail)
      go_loopw [11, 12, 13] (fun bv nv iv wr => ∃ (i : Nat) (t : Bool), i ≤ n ∧ iv = .int .i64 ((i : Int) - 1) ∧ nv = .bool t ∧ Hid (∀ j, i ≤ j → j < n → feq (fat l j) x = true → t = true) ∧ wr.ownsRow w.heap.size 25 1 bv (n - i) (SL (fat l) (fun k => n - 1 - k) (n - i)) ∧ Below w.heap.size w wr) (fun _ _ iv _ => (intOf iv + 1).toNat)
      case atStart => exact ⟨n, false, Nat.le_refl _, by rw [hp02], rfl, Lib.hid (fun j h0 h1 => by omega), by rw [Nat.sub_self]; exact World.ownsRow_nil _ _ _ _, HBX.out⟩
      case round =>
        obtain ⟨i, t, hi, rfl, rfl, HT, hown, hbt⟩ := hrel
        clear hp02 hwp0
        by_cases hi0 : 0 < i
        · obtain ⟨p, hp⟩ : ∃ p, p = i - 1 := ⟨_, rfl⟩
          have hp2 : (i : Int) - 1 = (p : Int) := by omega
          have hpn : p < n := by omega
          obtain ⟨b', off, rfl, hbl, hc⟩ := HX.out.2 (by omega)
          have hcp := hc p hpn
          have hck : wr.cell? ⟨b', off + p, none⟩ = some (.float .f64 (fat l p)) := (hbt.cell hbl).trans hcp
          have hsn := SL_snoc (fat l) (fun k => n - 1 - k) (n - i)
          simp only [show n - 1 - (n - i) = p by omega, show n - i + 1 = n - p by omega] at hsn
          have HSN := Lib.hid hsn
          have HB := Lib.hid hbt
          have hbs := hbt.size
          have hkb : (n - i + 1) * 8 ≤ 140737488355328 := by omega
          have hnp : n - i + 1 = n - p := by omega
          have HNP := Lib.hid hnp
          have HP := Lib.hid hp
          have hwp : IntKind.i64.wrap ((p : Int) - 1) = (p : Int) - 1 := IntWalk.i64_in _ (by omega)
          obtain ⟨v, hv⟩ : ∃ v, v = fat l p := ⟨_, rfl⟩
          rw [← hv] at hck hcp
          have HC0 := Lib.hid hcp
          clear hc hcp hsn hbt hnp hp
          have HV := Lib.hid hv
          rw [← hv] at HSN
          clear hv
          generalize n - i = mm at *
          generalize hS0 : SL (fat l) (fun k => n - 1 - k) mm = S0 at *
          clear hS0
          cases t
          · cases hfe : feq v x
            · go_wp2_with (at_builtin; refine wpList_append_one rfl _ _ 24 rfl w.heap.size 25 iF (.float .f64 0) 1 8 Tryd.underlying24 hiF hzF0 hzF1 hzF2 rfl (by decide) (by decide) u11 mm S0 rfl hown [.float .f64 v] rfl (oneF2 _) 25 1 rfl hkb hbs ?_; intro v1 w1 hown1 hbel1; have hck1 : w1.cell? ⟨b', off + p, none⟩ = some (.float .f64 v) := ((hbel1 _ _ HB.out (Nat.le_refl _)).cell hbl).trans HC0.out)
              rw [HSN.out, HNP.out] at hown1
              have HB1 := Lib.hid (hbel1 _ _ HB.out (Nat.le_refl _))
              have HO := Lib.hid hown1
              clear hown hown1 hbel1 hck
              go_wp2_with (fail)
              go_roundw
              case rel => exact ⟨p, false, by omega, rfl, rfl, Lib.hid (fun j j0 j1 hj => by
                by_cases e : j = p
                · rw [e, ← HV.out, hfe] at hj; cases hj
                · exact HT.out j (by have := HP.out; omega) j1 hj), HO.out, HB1.out⟩
              case measure => have := HP.out; simp [intOf]; omega
            · go_wp2_with (at_builtin; refine wpList_append_one rfl _ _ 24 rfl w.heap.size 25 iF (.float .f64 0) 1 8 Tryd.underlying24 hiF hzF0 hzF1 hzF2 rfl (by decide) (by decide) u11 mm S0 rfl hown [.float .f64 v] rfl (oneF2 _) 25 1 rfl hkb hbs ?_; intro v1 w1 hown1 hbel1; have hck1 : w1.cell? ⟨b', off + p, none⟩ = some (.float .f64 v) := ((hbel1 _ _ HB.out (Nat.le_refl _)).cell hbl).trans HC0.out)
              rw [HSN.out, HNP.out] at hown1
              have HB1 := Lib.hid (hbel1 _ _ HB.out (Nat.le_refl _))
              have HO := Lib.hid hown1
              clear hown hown1 hbel1 hck
              go_wp2_with (fail)
              go_roundw
              case rel => exact ⟨p, true, by omega, rfl, rfl, Lib.hid (fun j j0 j1 hj => rfl), HO.out, HB1.out⟩
              case measure => have := HP.out; simp [intOf]; omega
          · go_wp2_with (at_builtin; refine wpList_append_one rfl _ _ 24 rfl w.heap.size 25 iF (.float .f64 0) 1 8 Tryd.underlying24 hiF hzF0 hzF1 hzF2 rfl (by decide) (by decide) u11 mm S0 rfl hown [.float .f64 v] rfl (oneF2 _) 25 1 rfl hkb hbs ?_; intro v1 w1 hown1 hbel1; have hck1 : w1.cell? ⟨b', off + p, none⟩ = some (.float .f64 v) := ((hbel1 _ _ HB.out (Nat.le_refl _)).cell hbl).trans HC0.out)
            rw [HSN.out, HNP.out] at hown1
            have HB1 := Lib.hid (hbel1 _ _ HB.out (Nat.le_refl _))
            have HO := Lib.hid hown1
            clear hown hown1 hbel1 hck
            go_wp2_with (fail)
            go_roundw
            case rel => exact ⟨p, true, by omega, rfl, rfl, Lib.hid (fun j j0 j1 hj => rfl), HO.out, HB1.out⟩
            case measure => have := HP.out; simp [intOf]; omega
        · obtain rfl : i = 0 := by omega
          obtain ⟨A5, c5, rfl⟩ := own_form hown
          have hF5 := FRow.of_own (base := w.heap.size) (e := 25) (c := c5) (A := A5) (n := n) (w := wr) (l := l.reverse) (by
            rw [← rev_range HLEN.out, List.map_map]; exact hown)
          have HF5 := Lib.hid hF5
          have HB5 := Lib.hid hbt
          clear hown hF5 hbt
          rw [Nat.sub_zero]
          go_wp2_with (fail)
          refine (QU.out A5 c5 l.reverse a _ HF5.out HA.out.1 HA.out.2).mono ?_
          rintro e w6 ⟨z, er3, rfl, hq3, hb6⟩
          have HB6 := Lib.hid (HB5.out.trans (hb6.mono HB5.out.size))
          obtain ⟨rfl, r2, hs2, hzr⟩ := hq3.ok HLOW.out (nanIn_rev HLEN.out HNN.out) hn0
          obtain rfl := HS.out.one HS3.out
          obtain ⟨f1, ⟨j, hj, f2⟩, f3, f4⟩ := rises_plain HLEN.out HNN.out hn0 (show a ≤ b by have := HAB.out; omega) HHIW.out.2 HS.out hs2
          rw [← HXR.out, ← HYR.out] at f1
          rw [← HXR.out] at f2 f3 f4
          rw [← hzr] at f3
          obtain rfl := HT.out j (Nat.zero_le _) hj f2
          clear hq3 hb6 hs2 hzr f2 hj
          go_wp2_with (go_at_call 28; refine (isnan_no f4 _).mono ?_; rintro e w' ⟨rfl, rfl⟩)
          refine (AW.out _ HB6.out).mono ?_
          rintro e w9 ⟨rfl, hba⟩
          have HBA := Lib.hid hba
          clear hba
          go_wp2
          go_ret
          exact ⟨rfl, HB6.out.trans (HBA.out.mono HB6.out.size)⟩
theorem rises_swap (A : Option Addr) (n c : Nat) (l : List Nat) (a b : Int) (w : World) (hx : FRow w w.heap.size A n l) (hxm : n * 8 ≤ 140737488355328) (hab : b < a) (a0 : -9223372036854775808 ≤ a) (a1 : a ≤ 9223372036854775807) (b0 : -9223372036854775808 ≤ b) (b1 : b ≤ 9223372036854775807) (hp : Pow10 w) :
    Calls Tryd.prog 8 #[.slice A n c, .int .i64 a, .int .i64 b] w fun e w' => e = .returned (.bool true) ∧ Below w.heap.size w w' := by
  obtain ⟨iF, hiF, hzF0, hzF1, hzF2⟩ := info_parts infoF2
  have hlen := hx.1
  have O := Lib.hid (fun w' (hb : Below w.heap.size w w') => own2_any A n c l w w' hx hxm hb)
  have QU := Lib.hid (fun A' c' l' th w' (h : FRow w' w'.heap.size A' n l') h0 h1 => squant_any A' n c' l' th w' h hxm h0 h1)
  have AW := Lib.hid (fun w' (h : Below w.heap.size w w') => awake_any w' (hp.below h))
  have HX := Lib.hid hx
  have HA := Lib.hid (And.intro a0 a1)
  have HBB := Lib.hid (And.intro b0 b1)
  have HAB := Lib.hid hab
  have HLEN := Lib.hid hlen
  clear hx hp a0 a1 b0 b1 hlen
  go_enter Tryd.func8, Tryd.ntmps8
  go_wp2_with (fail)
  refine (O.out w (Below.refl _ _)).mono ?_
  rintro e w1 ⟨B1, d1, rfl, HF1, HK1, HB1⟩
  go_wp2_with (fail)
  refine (QU.out B1 d1 l b w1 HF1.out HBB.out.1 HBB.out.2).mono ?_
  rintro e w2 ⟨x, er, rfl, hq1, hb2⟩
  have HB2 := Lib.hid (HB1.out.trans (hb2.mono HB1.out.size))
  have HQ1 := Lib.hid hq1
  clear hq1 hb2 HF1 HK1 HB1
  go_wp2_with (fail)
  refine (O.out w2 HB2.out).mono ?_
  rintro e w3 ⟨B3, d3, rfl, HF3, HK3, HB3⟩
  go_wp2_with (fail)
  refine (QU.out B3 d3 l a w3 HF3.out HA.out.1 HA.out.2).mono ?_
  rintro e w4 ⟨y, er2, rfl, hq2, hb4⟩
  have HBX := Lib.hid (HB3.out.trans (hb4.mono HB3.out.size))
  have HQ2 := Lib.hid hq2
  clear hq2 hb4 HF3 HK3 HB3 HB2
  rcases HQ1.out.kind with rfl | rfl | rfl | ⟨rfl, hlo, hnn, hn0, r, hs, hxr⟩
  iterate 3
    · go_wp2_with (fail)
      refine (AW.out _ HBX.out).mono ?_
      rintro e w9 ⟨rfl, hba⟩
      have HBA := Lib.hid hba
      clear hba
      go_wp2
      go_ret
      exact ⟨rfl, HBX.out.trans (HBA.out.mono HBX.out.size)⟩

  · have HLOW := Lib.hid hlo
    have HNN := Lib.hid hnn
    have HS := Lib.hid hs
    have HXR := Lib.hid hxr
    clear hlo hnn hs hxr
    rcases HQ2.out.kind with rfl | rfl | rfl | ⟨rfl, hhi, _, _, r3, hs3, hyr⟩
    iterate 3
      · go_wp2_with (fail)
        refine (AW.out _ HBX.out).mono ?_
        rintro e w9 ⟨rfl, hba⟩
        have HBA := Lib.hid hba
        clear hba
        go_wp2
        go_ret
        exact ⟨rfl, HBX.out.trans (HBA.out.mono HBX.out.size)⟩

    · have HHIW := Lib.hid hhi
      have HS3 := Lib.hid hs3
      have HYR := Lib.hid hyr
      clear hhi hs3 hyr
      obtain ⟨p0, hp0⟩ : ∃ p, p = n - 1 := ⟨_, rfl⟩
      have hp02 : (n : Int) - 1 = (p0 : Int) := by omega
      have hwp0 : IntKind.i64.wrap (p0 : Int) = (p0 : Int) := IntWalk.i64_in _ (by omega)
      have HP0 := Lib.hid hp0
      clear hp0
      go_wp2_with (fail)
      go_loopw [11, 12, 13] (fun bv nv iv wr => ∃ (i : Nat) (t : Bool), i ≤ n ∧ iv = .int .i64 ((i : Int) - 1) ∧ nv = .bool t ∧ Hid (∀ j, i ≤ j → j < n → feq (fat l j) x = true → t = true) ∧ wr.ownsRow w.heap.size 25 1 bv (n - i) (SL (fat l) (fun k => n - 1 - k) (n - i)) ∧ Below w.heap.size w wr) (fun _ _ iv _ => (intOf iv + 1).toNat)
      case atStart => exact ⟨n, false, Nat.le_refl _, by rw [hp02], rfl, Lib.hid (fun j h0 h1 => by omega), by rw [Nat.sub_self]; exact World.ownsRow_nil _ _ _ _, HBX.out⟩
      case round =>
        obtain ⟨i, t, hi, rfl, rfl, HT, hown, hbt⟩ := hrel
        clear hp02 hwp0
        by_cases hi0 : 0 < i
        · obtain ⟨p, hp⟩ : ∃ p, p = i - 1 := ⟨_, rfl⟩
          have hp2 : (i : Int) - 1 = (p : Int) := by omega
          have hpn : p < n := by omega
          obtain ⟨b', off, rfl, hbl, hc⟩ := HX.out.2 (by omega)
          have hcp := hc p hpn
          have hck : wr.cell? ⟨b', off + p, none⟩ = some (.float .f64 (fat l p)) := (hbt.cell hbl).trans hcp
          have hsn := SL_snoc (fat l) (fun k => n - 1 - k) (n - i)
          simp only [show n - 1 - (n - i) = p by omega, show n - i + 1 = n - p by omega] at hsn
          have HSN := Lib.hid hsn
          have HB := Lib.hid hbt
          have hbs := hbt.size
          have hkb : (n - i + 1) * 8 ≤ 140737488355328 := by omega
          have hnp : n - i + 1 = n - p := by omega
          have HNP := Lib.hid hnp
          have HP := Lib.hid hp
          have hwp : IntKind.i64.wrap ((p : Int) - 1) = (p : Int) - 1 := IntWalk.i64_in _ (by omega)
          obtain ⟨v, hv⟩ : ∃ v, v = fat l p := ⟨_, rfl⟩
          rw [← hv] at hck hcp
          have HC0 := Lib.hid hcp
          clear hc hcp hsn hbt hnp hp
          have HV := Lib.hid hv
          rw [← hv] at HSN
          clear hv
          generalize n - i = mm at *
          generalize hS0 : SL (fat l) (fun k => n - 1 - k) mm = S0 at *
          clear hS0
          cases t
          · cases hfe : feq v x
            · go_wp2_with (at_builtin; refine wpList_append_one rfl _ _ 24 rfl w.heap.size 25 iF (.float .f64 0) 1 8 Tryd.underlying24 hiF hzF0 hzF1 hzF2 rfl (by decide) (by decide) u11 mm S0 rfl hown [.float .f64 v] rfl (oneF2 _) 25 1 rfl hkb hbs ?_; intro v1 w1 hown1 hbel1; have hck1 : w1.cell? ⟨b', off + p, none⟩ = some (.float .f64 v) := ((hbel1 _ _ HB.out (Nat.le_refl _)).cell hbl).trans HC0.out)
              rw [HSN.out, HNP.out] at hown1
              have HB1 := Lib.hid (hbel1 _ _ HB.out (Nat.le_refl _))
              have HO := Lib.hid hown1
              clear hown hown1 hbel1 hck
              go_wp2_with (fail)
              go_roundw
              case rel => exact ⟨p, false, by omega, rfl, rfl, Lib.hid (fun j j0 j1 hj => by
                by_cases e : j = p
                · rw [e, ← HV.out, hfe] at hj; cases hj
                · exact HT.out j (by have := HP.out; omega) j1 hj), HO.out, HB1.out⟩
              case measure => have := HP.out; simp [intOf]; omega
            · go_wp2_with (at_builtin; refine wpList_append_one rfl _ _ 24 rfl w.heap.size 25 iF (.float .f64 0) 1 8 Tryd.underlying24 hiF hzF0 hzF1 hzF2 rfl (by decide) (by decide) u11 mm S0 rfl hown [.float .f64 v] rfl (oneF2 _) 25 1 rfl hkb hbs ?_; intro v1 w1 hown1 hbel1; have hck1 : w1.cell? ⟨b', off + p, none⟩ = some (.float .f64 v) := ((hbel1 _ _ HB.out (Nat.le_refl _)).cell hbl).trans HC0.out)
              rw [HSN.out, HNP.out] at hown1
              have HB1 := Lib.hid (hbel1 _ _ HB.out (Nat.le_refl _))
              have HO := Lib.hid hown1
              clear hown hown1 hbel1 hck
              go_wp2_with (fail)
              go_roundw
              case rel => exact ⟨p, true, by omega, rfl, rfl, Lib.hid (fun j j0 j1 hj => rfl), HO.out, HB1.out⟩
              case measure => have := HP.out; simp [intOf]; omega
          · go_wp2_with (at_builtin; refine wpList_append_one rfl _ _ 24 rfl w.heap.size 25 iF (.float .f64 0) 1 8 Tryd.underlying24 hiF hzF0 hzF1 hzF2 rfl (by decide) (by decide) u11 mm S0 rfl hown [.float .f64 v] rfl (oneF2 _) 25 1 rfl hkb hbs ?_; intro v1 w1 hown1 hbel1; have hck1 : w1.cell? ⟨b', off + p, none⟩ = some (.float .f64 v) := ((hbel1 _ _ HB.out (Nat.le_refl _)).cell hbl).trans HC0.out)
            rw [HSN.out, HNP.out] at hown1
            have HB1 := Lib.hid (hbel1 _ _ HB.out (Nat.le_refl _))
            have HO := Lib.hid hown1
            clear hown hown1 hbel1 hck
            go_wp2_with (fail)
            go_roundw
            case rel => exact ⟨p, true, by omega, rfl, rfl, Lib.hid (fun j j0 j1 hj => rfl), HO.out, HB1.out⟩
            case measure => have := HP.out; simp [intOf]; omega
        · obtain rfl : i = 0 := by omega
          obtain ⟨A5, c5, rfl⟩ := own_form hown
          have hF5 := FRow.of_own (base := w.heap.size) (e := 25) (c := c5) (A := A5) (n := n) (w := wr) (l := l.reverse) (by
            rw [← rev_range HLEN.out, List.map_map]; exact hown)
          have HF5 := Lib.hid hF5
          have HB5 := Lib.hid hbt
          clear hown hF5 hbt
          rw [Nat.sub_zero]
          go_wp2_with (fail)
          refine (QU.out A5 c5 l.reverse b _ HF5.out HBB.out.1 HBB.out.2).mono ?_
          rintro e w6 ⟨z, er3, rfl, hq3, hb6⟩
          have HB6 := Lib.hid (HB5.out.trans (hb6.mono HB5.out.size))
          obtain ⟨rfl, r2, hs2, hzr⟩ := hq3.ok HLOW.out (nanIn_rev HLEN.out HNN.out) hn0
          obtain rfl := HS.out.one HS3.out
          obtain ⟨f1, ⟨j, hj, f2⟩, f3, f4⟩ := rises_plain HLEN.out HNN.out hn0 (show b ≤ a by have := HAB.out; omega) HHIW.out.2 HS.out hs2
          rw [← HXR.out, ← HYR.out] at f1
          rw [← HXR.out] at f2 f3 f4
          rw [← hzr] at f3
          obtain rfl := HT.out j (Nat.zero_le _) hj f2
          clear hq3 hb6 hs2 hzr f2 hj
          go_wp2_with (go_at_call 28; refine (isnan_no f4 _).mono ?_; rintro e w' ⟨rfl, rfl⟩)
          refine (AW.out _ HB6.out).mono ?_
          rintro e w9 ⟨rfl, hba⟩
          have HBA := Lib.hid hba
          clear hba
          go_wp2
          go_ret
          exact ⟨rfl, HB6.out.trans (HBA.out.mono HB6.out.size)⟩
theorem StatsRises_walk (A : Option Addr) (n c : Nat) (l : List Nat) (a b : Int) (w : World) (hx : FRow w w.heap.size A n l) (hxm : n * 8 ≤ 140737488355328) (ha : (Lit.int .i64 a).wf = true) (hb : (Lit.int .i64 b).wf = true) (hp : Pow10 w) :
    Calls Tryd.prog 8 #[.slice A n c, .int .i64 a, .int .i64 b] w fun e w' => e = .returned (.bool true) ∧ Below w.heap.size w w' := by
  obtain ⟨a0, a1⟩ := bounds_i64 ha
  obtain ⟨b0, b1⟩ := bounds_i64 hb
  by_cases h : b < a
  · exact rises_swap A n c l a b w hx hxm h a0 a1 b0 b1 hp
  · exact rises_keep A n c l a b w hx hxm (by omega) a0 a1 b0 b1 hp

end Go.Proofs.YtjcgachdnkdamaaDoor
