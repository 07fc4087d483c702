/- The walks of the two Sorteds: each answers with the one sorted list. Conditions: as each theorem's hypotheses say; lists of less than 2^45 floats. -/
import Derived.Test.YtjcgachdnkdamaaDoorSst
import Derived.Test.YtjcgachdnkdamaaDoorGen
namespace Go.Proofs.YtjcgachdnkdamaaDoor
open Go.RowKit Flt Go.Mem Go.Lib
set_option linter.unusedVariables false

attribute [local go_sem] run_store_float
set_option maxHeartbeats 1600000
/-- a list sorted -/
def SortedOf (l : List Nat) (n : Nat) (r : List Nat) : Prop := r.length = n ∧ ∃ t, Inc (fat l) t 0 n ∧ (∀ i, i < n → t i < n) ∧ ∀ i, i < n → fat r i = fat l (t i)
theorem fat_of {l : List Nat} {i : Nat} (h : i < l.length) : fat l i = l[i] := by unfold fat; rw [List.getD_eq_getElem?_getD, List.getElem?_eq_getElem h]; rfl
theorem SortedOf.one {l a b : List Nat} {n : Nat} (h : SortedOf l n a) (g : SortedOf l n b) : a = b := by
  obtain ⟨h0, t, h1, h2, h3⟩ := h
  obtain ⟨g0, u, g1, g2, g3⟩ := g
  have e := inc_one h1 h2 g1 g2
  refine List.ext_getElem (by omega) fun i i0 i1 => ?_
  rw [← fat_of i0, ← fat_of i1, h3 i (by omega), g3 i (by omega), e i (by omega)]
theorem fat_range (g : Nat → Nat) {n i : Nat} (h : i < n) : fat ((List.range n).map g) i = g i := by
  rw [fat_of (by simpa using h)]; simp
theorem SortedOf.make {l : List Nat} {n : Nat} {t : Nat → Nat} (h1 : Inc (fat l) t 0 n) (h2 : ∀ i, i < n → t i < n) : SortedOf l n ((List.range n).map fun i => fat l (t i)) :=
  ⟨by simp, t, h1, h2, fun i hi => fat_range _ hi⟩
theorem SRow.frow {w : World} {b off n : Nat} {f s : Nat → Nat} (h : SRow w b off n f s) : FRow w w.heap.size (some ⟨b, off, none⟩) n ((List.range n).map fun i => f (s i)) :=
  ⟨by simp, fun _ => ⟨b, off, rfl, h.1, fun i hi => by rw [fat_range _ hi]; exact (h.2 i hi).1⟩⟩
theorem own_some {w : World} {base size n : Nat} {e : TypeId} {v : Value} {xs : List Value} (h : w.ownsRow base e size v n xs) (hv : v ≠ .slice none 0 0) : ∃ g c, v = .slice (some ⟨g, 0, none⟩) n c ∧ base ≤ g ∧ g < w.heap.size := by
  rcases h.2 with ⟨e, _⟩ | ⟨g, cap, cur, rfl, hb, hg, _⟩
  · exact absurd e hv
  · refine ⟨g, cap, rfl, hb, ?_⟩
    rcases Nat.lt_or_ge g w.heap.size with hlt | hge
    · exact hlt
    · rw [Array.getElem?_eq_none hge] at hg; cases hg
theorem own_kind {w : World} {base size n c : Nat} {e : TypeId} {A : Option Addr} {xs : List Value} (h : w.ownsRow base e size (.slice A n c) n xs) : A = none ∨ ∃ b off, A = some ⟨b, off, none⟩ := by
  rcases h.2 with ⟨e, _⟩ | ⟨g, cap, cur, e, _⟩
  · injection e with e1; exact .inl e1
  · injection e with e1; exact .inr ⟨g, 0, e1⟩
theorem SRow.of_own {w : World} {base g n c : Nat} {e : TypeId} {f s : Nat → Nat} (h : w.ownsRow base e 1 (.slice (some ⟨g, 0, none⟩) n c) n ((List.range n).map fun i => .float .f64 (f (s i)))) (hg : g < w.heap.size) : SRow w g 0 n f s :=
  ⟨hg, fun i hi => by
    rw [Nat.zero_add]
    refine ⟨?_, h.frozenAt i⟩
    rw [h.cellAt i (by omega)]
    simp [hi]⟩
theorem map_range_fat {l : List Nat} {n : Nat} (h : l.length = n) : (l.map (Value.float .f64)) = (List.range n).map fun i => Value.float .f64 (fat l (id i)) := by
  refine List.ext_getElem (by simp [h]) fun i i0 i1 => ?_
  have hi : i < l.length := by simpa using i0
  simp [fat_of hi]
theorem insert_nil (w : World) : Calls Tryd.prog 68 #[.slice none 0 0, .int .i64 0, .int .i64 0, .func (.func 53) #[] #[]] w fun e w' => e = .returned (.tuple #[]) ∧ w' = w := by
  go_enter Tryd.func68, Tryd.ntmps68
  go_wp2_with (fail)
  go_loop [8] (fun iv => iv = .int .i64 1) (fun _ => 0)
  case atStart => rfl
  case round =>
    subst hrel
    go_wp2_with (fail)
    go_end0
    exact ⟨rfl, rfl⟩
theorem stable_nil (w : World) : Calls Tryd.prog 61 #[.slice none 0 0, .int .i64 0, .func (.func 53) #[] #[]] w fun e w' => e = .returned (.tuple #[]) ∧ w' = w := by
  go_enter Tryd.func61, Tryd.ntmps61
  go_wp2_with (fail)
  go_loop [7, 8] (fun av bv => av = .int .i64 0 ∧ bv = .int .i64 20) (fun _ _ => 0)
  case atStart => exact ⟨rfl, rfl⟩
  case round =>
    obtain ⟨rfl, rfl⟩ := hrel
    go_wp2_with (fail)
    refine (insert_nil _).mono ?_
    rintro e w' ⟨rfl, rfl⟩
    go_wp2_with (fail)
    go_loop [6] (fun kv => kv = .int .i64 20) (fun _ => 0)
    case atStart => rfl
    case round =>
      subst hrel
      go_wp2_with (fail)
      go_end0
      exact ⟨rfl, rfl⟩
theorem sort_nil (w : World) : Calls Tryd.prog 52 #[.slice none 0 0, .func (.func 53) #[] #[]] w fun e w' => e = .returned (.tuple #[]) ∧ w' = w := by
  go_enter Tryd.func52, Tryd.ntmps52
  go_wp2_with (fail)
  refine (stable_nil _).mono ?_
  rintro e w' ⟨rfl, rfl⟩
  go_wp2_with (fail)
  go_end0
  exact ⟨rfl, rfl⟩
theorem sorted_any (A : Option Addr) (n c : Nat) (l : List Nat) (w : World) (hl : FRow w w.heap.size A n l) (hA : A = none ∨ ∃ b off, A = some ⟨b, off, none⟩) (hn : n * 8 ≤ 140737488355328) :
    Calls Tryd.prog 24 #[.slice A n c] w fun e w' => ∃ A' c' r, e = .returned (.slice A' n c') ∧ SortedOf l n r ∧ FRow w' w'.heap.size A' n r ∧ Below w.heap.size w w' := by
  have hlen := hl.1
  rcases hA with rfl | ⟨b, off, rfl⟩
  · obtain rfl : n = 0 := by
      by_cases h : 0 < n
      · obtain ⟨b, off, e, _⟩ := hl.2 h; cases e
      · omega
    clear hl
    go_enter Tryd.func24, Tryd.ntmps24
    go_wp2_with (fail)
    refine (Tryd.slices_Clone_nil 0 c w).mono ?_
    rintro e w' ⟨rfl, rfl⟩
    go_wp2_with (fail)
    refine (sort_nil _).mono ?_
    rintro e w' ⟨rfl, rfl⟩
    go_wp2
    go_ret
    exact ⟨_, _, [], rfl, ⟨rfl, id, fun i j _ _ h => by omega, fun i h => by omega, fun i h => by omega⟩, ⟨rfl, fun h => by omega⟩, Below.refl _ _⟩
  · obtain ⟨iF, hiF, hzF0, hzF1, hzF2⟩ := info_parts infoF2
    have hone : ∀ u ∈ l.map (Value.float .f64), u.oneCell' = true := by
      intro u hu; obtain ⟨x, _, rfl⟩ := List.mem_map.1 hu; rfl
    have hcl : ∀ j u, (l.map (Value.float .f64))[j]? = some u → w.cell? ⟨b, off + j, none⟩ = some u := by
      intro j u hu
      have hj : j < n := by
        rcases Nat.lt_or_ge j n with h | h
        · exact h
        · rw [List.getElem?_eq_none (by simpa [hlen] using h)] at hu; cases hu
      obtain ⟨b2, o2, e, _, hc⟩ := hl.to_row.2 (by omega)
      simp only [Option.some.injEq, Addr.mk.injEq, and_true] at e
      obtain ⟨rfl, rfl⟩ := e
      exact hc j u hu
    have CL := Lib.hid (Tryd.slices_Clone iF (.float .f64 0) 1 8 hiF hzF0 hzF1 hzF2 rfl (by decide) (fun w => by simp [Go.sizeOf, typeInfo, hiF, hzF1]) b off n c (l.map (.float .f64)) w (by simp [hlen]) (by unfold maxLen; omega) hn hcl hone)
    clear hl hcl hone hiF hzF0 hzF1 hzF2
    go_enter Tryd.func24, Tryd.ntmps24
    go_wp2_with (fail)
    refine CL.out.mono ?_
    rintro e w1 ⟨v1, rfl, hown, hne, hb1⟩
    obtain ⟨g, c1, rfl, hg0, hg1⟩ := own_some hown hne
    rw [map_range_fat hlen] at hown
    have S1 := Lib.hid (SRow.of_own (s := id) hown hg1)
    clear hown hne hg1
    go_wp2_with (fail)
    refine (sort_any g 0 c1 n (fat l) w.heap.size w1 S1.out hg0 (by omega)).mono ?_
    rintro e w2 ⟨rfl, ⟨t, ht1, ht2, hS⟩, hb2⟩
    have HS := Lib.hid hS
    clear hS
    go_wp2
    go_ret
    exact ⟨_, _, _, rfl, SortedOf.make ht1 ht2, HS.out.frow, hb1.trans hb2⟩
/-- the cells of a row whose data is f by way of s -/
def SL (f s : Nat → Nat) (n : Nat) : List Value := (List.range n).map fun i => .float .f64 (f (s i))
theorem SL_snoc (f s : Nat → Nat) (n : Nat) : SL f s n ++ [.float .f64 (f (s n))] = SL f s (n + 1) := by
  unfold SL; rw [List.range_succ, List.map_append]; rfl
theorem SL_set (f s : Nat → Nat) (n i j : Nat) (hi : i < n) (hj : j < n) (hij : i ≠ j) : ((SL f s n).set i (.float .f64 (f (s j)))).set j (.float .f64 (f (s i))) = SL f (swx s i j) n := by
  unfold SL
  refine List.ext_getElem (by simp) fun k k0 k1 => ?_
  have hk : k < n := by simpa using k1
  simp only [List.getElem_set, List.getElem_map, List.getElem_range]
  unfold swx
  by_cases h1 : j = k
  · subst h1
    rw [if_pos rfl, if_neg (by omega), if_pos rfl]
  · rw [if_neg h1]
    by_cases h2 : i = k
    · subst h2; rw [if_pos rfl, if_pos rfl]
    · rw [if_neg h2, if_neg (fun h => h2 h.symm), if_neg (fun h => h1 h.symm)]
/-- a row of the call's own -/
def ORow (w : World) (base g c n : Nat) (f s : Nat → Nat) : Prop := w.ownsRow base 25 1 (.slice (some ⟨g, 0, none⟩) n c) n (SL f s n)
theorem ORow.drewN {w : World} {base g c n : Nat} {f s : Nat → Nat} (h : ORow w base g c n f s) (q : Nat) : ORow (w.drewN q) base g c n f s := h
theorem ORow.cell {w : World} {base g c n : Nat} {f s : Nat → Nat} (h : ORow w base g c n f s) {i : Nat} (hi : i < n) : w.cell? ⟨g, 0 + i, none⟩ = some (.float .f64 (f (s i))) ∧ w.frozen? ⟨g, 0 + i, none⟩ = false := by
  rw [Nat.zero_add]
  refine ⟨?_, World.ownsRow.frozenAt h i⟩
  rw [World.ownsRow.cellAt h i (by omega)]
  simp [SL, hi]
theorem ORow.swap {w : World} {base g c n i j : Nat} {f s : Nat → Nat} (q : Nat) (h : ORow w base g c n f s) (hi : i < n) (hj : j < n) (hij : i ≠ j) :
    ORow (((w.drewN q).setCell ⟨g, 0 + i, none⟩ (.float .f64 (f (s j)))).setCell ⟨g, 0 + j, none⟩ (.float .f64 (f (s i)))) base g c n f (swx s i j) := by
  rw [Nat.zero_add, Nat.zero_add]
  have h1 := (World.ownsRow.stored (h.drewN q) i (.float .f64 (f (s j)))).1
  have h2 := (World.ownsRow.stored h1 j (.float .f64 (f (s i)))).1
  rw [SL_set f s n i j hi hj hij] at h2
  exact h2
theorem ORow.frow {w : World} {base g c n : Nat} {f s : Nat → Nat} (h : ORow w base g c n f s) : FRow w w.heap.size (some ⟨g, 0, none⟩) n ((List.range n).map fun i => f (s i)) := by
  refine FRow.of_own (base := base) (e := 25) (c := c) ?_
  rw [List.map_map]; exact h
theorem oneF2 (b : Nat) : ∀ u ∈ [Value.float .f64 b], u.oneCell' = true := by intro u hu; simp at hu; subst hu; rfl
set_option maxHeartbeats 3200000 in
theorem rsorted_any (A : Option Addr) (n c : Nat) (l : List Nat) (w : World) (hl : FRow w w.heap.size A n l) (hn : n * 8 ≤ 140737488355328) :
    Calls Tryd.prog 25 #[.slice A n c] w fun e w' => ∃ A' c' r, e = .returned (.slice A' n c') ∧ SortedOf l n r ∧ FRow w' w'.heap.size A' n r ∧ Below w.heap.size w w' := by
  obtain ⟨iF, hiF, hzF0, hzF1, hzF2⟩ := info_parts infoF2
  obtain ⟨f, hf⟩ : ∃ f, f = fat l := ⟨_, rfl⟩
  have HF := Lib.hid hf
  clear hf
  go_enter Tryd.func25, Tryd.ntmps25
  go_wp2_with (fail)
  go_loopw [3, 4] (fun ov iv wr => ∃ (i : Nat) (t : Nat → Nat), i ≤ n ∧ iv = .int .i64 i ∧ Hid (Inc f t 0 i) ∧ Hid (Rm 0 i id t) ∧ wr.ownsRow w.heap.size 25 1 ov i (SL f t i) ∧ Below w.heap.size w wr) (fun _ iv _ => n - (intOf iv).toNat)
  case atStart => exact ⟨0, id, Nat.zero_le _, rfl, Lib.hid (fun i j _ _ h => by omega), Lib.hid (Rm.refl _ _ _), World.ownsRow_nil _ _ _ _, Below.refl _ _⟩
  case round =>
    obtain ⟨i, t, hi, rfl, HI, HR, hown, hbt⟩ := hrel
    by_cases hin : i < n
    · obtain ⟨b, off, rfl, hbl, hc⟩ := hl.2 (by omega)
      have hci := hc i hin
      have hck : wr.cell? ⟨b, off + i, none⟩ = some (.float .f64 (f i)) := by rw [HF.out]; exact (hbt.cell hbl).trans hci
      have hti : t i = i := HR.out.1 i (.inr (Nat.le_refl _))
      have hsn := SL_snoc f t i
      rw [hti] at hsn
      have HSN := Lib.hid hsn
      have HTI := Lib.hid hti
      have HB := Lib.hid hbt
      have hbs := hbt.size
      have hkb : (i + 1) * 8 ≤ 140737488355328 := by omega
      clear hc hci hl hsn hti hbt
      generalize hx : f i = x at *
      have HX := Lib.hid hx
      clear hx
      go_wp2_with (at_builtin; refine wpList_append_one rfl _ _ 24 rfl w.heap.size 25 iF (.float .f64 0) 1 8 Tryd.underlying24 hiF hzF0 hzF1 hzF2 rfl (by decide) (by decide) u3 i (SL f t i) rfl hown [.float .f64 x] rfl (oneF2 _) 25 1 rfl hkb hbs ?_; intro v1 w1 hown1 hbel1)
      rw [HSN.out] at hown1
      have hb1 := hbel1 _ _ HB.out (Nat.le_refl _)
      obtain ⟨g, c1, rfl, hg0, hg1⟩ := own_some hown1 (fun e => by rw [e] at hown1; rcases hown1.2 with ⟨_, h⟩ | ⟨_, _, _, h, _⟩; exact absurd h (Nat.succ_ne_zero _); cases h)
      have HO := Lib.hid (show ORow w1 w.heap.size g c1 (i + 1) f t from hown1)
      have HB1 := Lib.hid hb1
      clear hown hown1 hbel1 hb1 hck
      go_wp2_with (fail)
      go_loopw [5] (fun kv wr => ∃ (k : Nat) (u : Nat → Nat), k ≤ i ∧ kv = .int .i64 k ∧ Hid (Ins f t u 0 i k) ∧ ORow wr w.heap.size g c1 (i + 1) f u ∧ Below w.heap.size w wr) (fun kv _ => (intOf kv).toNat)
      case atStart => exact ⟨i, t, Nat.le_refl _, rfl, Lib.hid (Ins.start (Nat.zero_le _)), HO.out, HB1.out⟩
      case round =>
        obtain ⟨k, u, hki, rfl, HU, hO, hbt⟩ := hrel
        by_cases hk : 0 < k
        · obtain ⟨p, hp⟩ : ∃ p, p = k - 1 := ⟨_, rfl⟩
          have hp2 : (k : Int) - 1 = (p : Int) := by omega
          have hwp : IntKind.i64.wrap (p : Int) = (p : Int) := IntWalk.i64_in _ (by omega)
          have hpN : p < i + 1 := by omega
          have hkN : k < i + 1 := by omega
          have htl : u p < u k := by
            have h1 := HU.out.2.2.1
            have h2 := HU.out.2.2.2.1 p (by omega) (by omega)
            obtain ⟨j, j0, j1, e⟩ := HR.out.2 p (by omega) (by omega)
            rw [h1, h2, e, HTI.out]
            exact j1
          obtain ⟨cp, fp⟩ := hO.cell hpN
          obtain ⟨ck, fk⟩ := hO.cell hkN
          simp only [Nat.zero_add] at cp fp ck fk
          by_cases hcm : cmpI (f (u k)) (f (u p)) < 0
          · have hstep := HU.out.step hk (by rw [← hp]; exact (pre_cmp htl).1 hcm)
            rw [← hp] at hstep
            have HST := Lib.hid hstep
            have hD := fun q => hO.swap q hkN hpN (by omega)
            simp only [Nat.zero_add] at hD
            have HDx := Lib.hid hD
            have HP := Lib.hid hp
            clear hstep hD hO hp htl
            generalize f (u k) = vk at *
            generalize f (u p) = vp at *
            go_wp2_with (fail)
            go_big_quiet (first | (go_at_call 43; first | exact quiet_more (rcompare_any _ _ _) | exact Calls.quiet_of_same (rcompare_any _ _ _)) | exact quiet_more (rcompare_any _ _ _) | exact Calls.quiet_of_same (rcompare_any _ _ _))
            go_wp2_with (fail)
            go_region
            all_goals go_wp2
            go_roundw
            case rel =>
              have e1 := HP.out
              exact ⟨p, _, by omega, by go_num, HST, HDx.out _, ((below_drewN hbt _).setCell (p := ⟨g, _, none⟩) hg0 _).setCell (p := ⟨g, _, none⟩) hg0 _⟩
            case measure => have e1 := HP.out; simp [intOf]; omega
          · have hd := HU.out.done HI.out (fun _ => by rw [← hp]; exact pre_not htl hcm)
            have HD1 := Lib.hid hd.1
            have HD2 := Lib.hid (((HR.out.mono (Nat.le_refl _) (by omega)).trans hd.2 : Rm 0 (i + 1) id u))
            have HO2 := Lib.hid hO
            clear hd hO hp htl
            generalize f (u k) = vk at *
            generalize f (u p) = vp at *
            go_wp2_with (fail)
            go_big_quiet (first | (go_at_call 43; first | exact quiet_more (rcompare_any _ _ _) | exact Calls.quiet_of_same (rcompare_any _ _ _)) | exact quiet_more (rcompare_any _ _ _) | exact Calls.quiet_of_same (rcompare_any _ _ _))
            go_wp2_with (fail)
            go_roundw
            case rel => exact ⟨i + 1, u, by omega, by go_num, HD1, HD2, HO2.out.drewN _, below_drewN hbt _⟩
            case measure => simp [intOf]; omega
        · obtain rfl : k = 0 := by omega
          have hd := HU.out.done HI.out (fun h => absurd h (Nat.lt_irrefl _))
          have HD1 := Lib.hid hd.1
          have HD2 := Lib.hid (((HR.out.mono (Nat.le_refl _) (by omega)).trans hd.2 : Rm 0 (i + 1) id u))
          have HO2 := Lib.hid hO
          clear hd hO
          go_wp2_with (fail)
          go_big_quiet (first | (go_at_call 43; first | exact quiet_more (rcompare_any _ _ _) | exact Calls.quiet_of_same (rcompare_any _ _ _)) | exact quiet_more (rcompare_any _ _ _) | exact Calls.quiet_of_same (rcompare_any _ _ _))
          go_wp2_with (fail)
          go_roundw
          case rel => exact ⟨i + 1, u, by omega, by go_num, HD1, HD2, HO2.out.drewN _, below_drewN hbt _⟩
          case measure => simp [intOf]; omega
    · obtain rfl : i = n := by omega
      obtain ⟨A1, c1, rfl⟩ := own_form hown
      have HO := Lib.hid hown
      clear hown hl
      go_wp2_with (fail)
      go_ret
      refine ⟨_, _, (List.range i).map fun k => f (t k), rfl, ?_, ?_, hbt⟩
      · rw [HF.out] at HI ⊢
        exact SortedOf.make HI.out fun k hk => by obtain ⟨j, _, j1, e⟩ := HR.out.2 k (Nat.zero_le _) hk; rw [e]; exact j1
      · refine FRow.of_own (base := w.heap.size) (e := 25) (c := c1) ?_
        rw [List.map_map]; exact HO.out

end Go.Proofs.YtjcgachdnkdamaaDoor
