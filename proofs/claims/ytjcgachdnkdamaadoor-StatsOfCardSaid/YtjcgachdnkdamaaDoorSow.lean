/- The walks of the two Ofs. Conditions: lists of less than 2^45 floats, words of 64 bits. -/
import Derived.Test.YtjcgachdnkdamaaDoorSop
namespace Go.Proofs.YtjcgachdnkdamaaDoor
open Go.RowKit Flt Go.Mem Go.Lib
set_option linter.unusedVariables false

attribute [local go_sem] run_store_float
set_option maxHeartbeats 6400000
set_option maxRecDepth 100000
theorem ob_first (w : World) (cs1 : Array Value) (t1 : TypeId) : OB ((w.alloc (.cells cs1 t1)).alloc (.cells #[.int .i64 0, .int .i64 0, .int .i64 0, .float .f64 9221120237041090560, .float .f64 9221120237041090560, .float .f64 9221120237041090560, .float .f64 9221120237041090560] 30)) (w.heap.size + 1) 0 0 0 9221120237041090560 9221120237041090560 9221120237041090560 9221120237041090560 := by
  have h := Go.heap_alloc_new (w.alloc (.cells cs1 t1)) (.cells #[.int .i64 0, .int .i64 0, .int .i64 0, .float .f64 9221120237041090560, .float .f64 9221120237041090560, .float .f64 9221120237041090560, .float .f64 9221120237041090560] 30)
  rw [show (w.alloc (.cells cs1 t1)).heap.size = w.heap.size + 1 by simp] at h
  exact h
theorem ob_zero (w : World) (o : Obj) : OB ((w.alloc (.cells #[.int .i64 0, .int .i64 0, .int .i64 0, .float .f64 0, .float .f64 0, .float .f64 0, .float .f64 0] 30)).alloc o) w.heap.size 0 0 0 0 0 0 0 := by
  have h := Go.heap_alloc_new w (.cells #[.int .i64 0, .int .i64 0, .int .i64 0, .float .f64 0, .float .f64 0, .float .f64 0, .float .f64 0] 30)
  unfold OB
  rw [Go.heap_alloc_old _ _ (by simp)]
  exact h
theorem sorted2_any (b off n c : Nat) (l : List Nat) (w : World) (hl : FRow w w.heap.size (some ⟨b, off, none⟩) n l) (hn : n * 8 ≤ 140737488355328) :
    Calls Tryd.prog 24 #[.slice (some ⟨b, off, none⟩) n c] w fun e w' => ∃ g c' r, e = .returned (.slice (some ⟨g, 0, none⟩) n c') ∧ w.heap.size ≤ g ∧ SortedOf l n r ∧ FRow w' w'.heap.size (some ⟨g, 0, none⟩) n r ∧ Below w.heap.size w w' := by
  have hlen := hl.1
  obtain ⟨iF, hiF, hzF0, hzF1, hzF2⟩ := info_parts infoF2
  have hone : ∀ u ∈ l.map (Value.float .f64), u.oneCell' = true := by
    intro u hu; obtain ⟨x, _, rfl⟩ := List.mem_map.1 hu; rfl
  have hcl : ∀ j u, (l.map (Value.float .f64))[j]? = some u → w.cell? ⟨b, off + j, none⟩ = some u := by
    intro j u hu
    have hj : j < n := by
      rcases Nat.lt_or_ge j n with h | h
      · exact h
      · rw [List.getElem?_eq_none (by simpa [hlen] using h)] at hu; cases hu
    obtain ⟨b2, o2, e, _, hc⟩ := hl.to_row.2 (by omega)
    simp only [Option.some.injEq, Addr.mk.injEq, and_true] at e
    obtain ⟨rfl, rfl⟩ := e
    exact hc j u hu
  have CL := Lib.hid (Tryd.slices_Clone iF (.float .f64 0) 1 8 hiF hzF0 hzF1 hzF2 rfl (by decide) (fun w => by simp [Go.sizeOf, typeInfo, hiF, hzF1]) b off n c (l.map (.float .f64)) w (by simp [hlen]) (by unfold maxLen; omega) hn hcl hone)
  clear hl hcl hone hiF hzF0 hzF1 hzF2
  go_enter Tryd.func24, Tryd.ntmps24
  go_wp2_with (fail)
  refine CL.out.mono ?_
  rintro e w1 ⟨v1, rfl, hown, hne, hb1⟩
  obtain ⟨g, c1, rfl, hg0, hg1⟩ := own_some hown hne
  rw [map_range_fat hlen] at hown
  have S1 := Lib.hid (SRow.of_own (s := id) hown hg1)
  clear hown hne hg1
  go_wp2_with (fail)
  refine (sort_any g 0 c1 n (fat l) w.heap.size w1 S1.out hg0 (by omega)).mono ?_
  rintro e w2 ⟨rfl, ⟨t, ht1, ht2, hS⟩, hb2⟩
  have HS := Lib.hid hS
  clear hS
  go_wp2
  go_ret
  exact ⟨_, _, _, rfl, hg0, SortedOf.make ht1 ht2, HS.out.frow, hb1.trans hb2⟩
theorem ret_sum {fn : Func} {N a i : Int} {le mi mo me : Nat} (h : fn.results = #[.cell 2 30]) (tmps : Array Value) (w : World) (g : Nat) (hp : tmps.getD 2 undef = .pointer (some ⟨g, 0, none⟩)) (hg : OB w g N a i le mi mo me) :
    (results fn tmps).run Tryd.prog w = .ok (.agg #[.int .i64 N, .int .i64 a, .int .i64 i, .float .f64 le, .float .f64 mi, .float .f64 mo, .float .f64 me]) w :=
  Go.results_cell_row h tmps w g 30 _ (0, 0) _ hp hg Tryd.underlying30 rfl (by kernel_rfl)
theorem of_any (A : Option Addr) (n c : Nat) (l : List Nat) (w : World) (hl : FRow w w.heap.size A n l) (hn : n * 8 ≤ 140737488355328) (hlt : ∀ x ∈ l, x < 18446744073709551616) :
    Calls Tryd.prog 29 #[.slice A n c] w fun e w' => ∃ (N a i : Int) (le mi mo me : Nat), e = .returned (sumV N a i le mi mo me) ∧ OfV l n N a i le mi mo me ∧ Below w.heap.size w w' := by
  obtain ⟨iF, hiF, hzF0, hzF1, hzF2⟩ := info_parts infoF2
  unfold sumV
  have HL := Lib.hid hl
  have HLT := Lib.hid hlt
  clear hl hlt
  go_enter Tryd.func29, Tryd.ntmps29
  go_wp2_with (go_at_call 45; refine (nan_any _).mono ?_; rintro e w' ⟨rfl, rfl⟩)
  have HST := Lib.hid (And.intro (ob_first w #[.int .i64 0, .int .i64 0, .int .i64 0, .float .f64 0, .float .f64 0, .float .f64 0, .float .f64 0] 30) (And.intro (ob_zero w (.cells #[.int .i64 0, .int .i64 0, .int .i64 0, .float .f64 9221120237041090560, .float .f64 9221120237041090560, .float .f64 9221120237041090560, .float .f64 9221120237041090560] 30)) (((Below.refl w.heap.size w).alloc (Nat.le_refl _) (.cells #[.int .i64 0, .int .i64 0, .int .i64 0, .float .f64 0, .float .f64 0, .float .f64 0, .float .f64 0] 30)).alloc (by simp) (.cells #[.int .i64 0, .int .i64 0, .int .i64 0, .float .f64 9221120237041090560, .float .f64 9221120237041090560, .float .f64 9221120237041090560, .float .f64 9221120237041090560] 30))))
  generalize hw0 : (w.alloc (.cells #[.int .i64 0, .int .i64 0, .int .i64 0, .float .f64 0, .float .f64 0, .float .f64 0, .float .f64 0] 30)).alloc (.cells #[.int .i64 0, .int .i64 0, .int .i64 0, .float .f64 9221120237041090560, .float .f64 9221120237041090560, .float .f64 9221120237041090560, .float .f64 9221120237041090560] 30) = w0 at *
  clear hw0
  go_loopw [4, 15] (fun sv kv wr => ∃ (k : Nat), k ≤ n ∧ kv = .int .i64 k ∧ wr.ownsRow (w.heap.size + 2) 25 1 sv (someL l k).length ((someL l k).map (.float .f64)) ∧ Hid (OB wr (w.heap.size + 1) 0 (nanN l k : Nat) (infN l k : Nat) 9221120237041090560 9221120237041090560 9221120237041090560 9221120237041090560) ∧ Hid (OB wr w.heap.size 0 0 0 0 0 0 0) ∧ Below w.heap.size w wr) (fun _ kv _ => n - (intOf kv).toNat)
  case atStart => exact ⟨0, Nat.zero_le _, rfl, World.ownsRow_nil _ _ _ _, Lib.hid HST.out.1, Lib.hid HST.out.2.1, HST.out.2.2⟩
  case round =>
    obtain ⟨wa, rfl⟩ : ∃ wa : World, wa = wr := ⟨_, rfl⟩
    obtain ⟨k, hk, rfl, hown, HG, HR, hbt⟩ := hrel
    have hbs0 := HG.out.lt
    have hbs : w.heap.size + 2 ≤ wa.heap.size := by omega
    have hbd := of_bd l k
    have HB := Lib.hid hbt
    by_cases hkn : k < n
    · obtain ⟨b, off, rfl, hbl, hc⟩ := HL.out.2 (by omega)
      have hck : wa.cell? ⟨b, off + k, none⟩ = some (.float .f64 (fat l k)) := (hbt.cell hbl).trans (hc k hkn)
      have hx := fat_lt HLT.out k
      obtain ⟨c1, f1⟩ := HG.out.c1
      obtain ⟨c2, f2⟩ := HG.out.c2
      clear hc hbt
      cases hnan : isnan (fat l k)
      · cases hinf : isinf (fat l k)
        · have HE := Lib.hid (of_fin hnan hinf)
          generalize someL l k = S at *
          generalize nanN l k = na at *
          generalize infN l k = ni at *
          obtain ⟨mm, hmm⟩ : ∃ mm, mm = S.length := ⟨_, rfl⟩
          rw [← hmm] at hown hbd
          have HM := Lib.hid hmm
          obtain ⟨x, hxe⟩ : ∃ x, x = fat l k := ⟨_, rfl⟩
          rw [← hxe] at hnan hinf hck hx
          have HX := Lib.hid hxe
          have hkb : (mm + 1) * 8 ≤ 140737488355328 := by omega
          clear hmm hxe
          go_wp2_with (first | (at_builtin; refine wpList_append_one rfl _ _ 24 rfl (w.heap.size + 2) 25 iF (.float .f64 0) 1 8 Tryd.underlying24 hiF hzF0 hzF1 hzF2 rfl (by decide) (by decide) u4 mm (S.map (.float .f64)) rfl hown [.float .f64 x] rfl (oneF2 _) 25 1 rfl hkb hbs ?_; intro v1 w1 hown1 hbel1) | (go_at_call 28; refine (isnan_no hnan _).mono ?_; rintro e w' ⟨rfl, hww⟩; subst hww) | (go_at_call 36; refine (isinf0_any _ _ hx).mono ?_; rintro e w' ⟨rfl, hww⟩; subst hww))
          have HO := Lib.hid hown1
          have HB1 := Lib.hid (hbel1 _ _ HB.out (by omega))
          have HBB := Lib.hid (hbel1 _ _ (Below.refl (w.heap.size + 2) _) (Nat.le_refl _))
          clear hown hown1 hbel1
          go_roundw
          case rel => exact ⟨k + 1, by omega, by go_num, by rw [HE.out.1, List.length_append, List.map_append, ← HM.out, ← HX.out]; exact HO.out, Lib.hid (by rw [HE.out.2.1, HE.out.2.2]; exact HG.out.below HBB.out (by omega)), Lib.hid (HR.out.below HBB.out (by omega)), HB1.out⟩
          case measure => simp [intOf]; omega
        · have HE := Lib.hid (of_inf hnan hinf)
          generalize someL l k = S at *
          generalize nanN l k = na at *
          generalize infN l k = ni at *
          obtain ⟨mm, hmm⟩ : ∃ mm, mm = S.length := ⟨_, rfl⟩
          rw [← hmm] at hown hbd
          have HM := Lib.hid hmm
          obtain ⟨x, hxe⟩ : ∃ x, x = fat l k := ⟨_, rfl⟩
          rw [← hxe] at hnan hinf hck hx
          have HX := Lib.hid hxe
          have hkb : (mm + 1) * 8 ≤ 140737488355328 := by omega
          obtain ⟨z, hz⟩ : ∃ z, z = ni + 1 := ⟨_, rfl⟩
          have hz2 : (ni : Int) + 1 = (z : Int) := by omega
          have hwz : IntKind.i64.wrap (z : Int) = (z : Int) := IntWalk.i64_in _ (by omega)
          have HZ := Lib.hid hz
          clear hmm hxe hz
          have HG2 := Lib.hid (HG.out.s2 (z : Int))
          have HR2 := Lib.hid (HR.out.set (g2 := w.heap.size + 1) (by omega) 2 (.int .i64 z))
          have HB2 := Lib.hid (HB.out.setCell (p := ⟨w.heap.size + 1, 2, none⟩) (Nat.le_succ _) (.int .i64 z))
          have hown2 := own_set (g := w.heap.size + 1) (j := 2) (u := .int .i64 z) hown (by omega)
          have hszq : (wa.setCell ⟨w.heap.size + 1, 2, none⟩ (.int .i64 z)).heap.size = wa.heap.size := by simp [World.setCell]
          have hbs2 : w.heap.size + 2 ≤ (wa.setCell ⟨w.heap.size + 1, 2, none⟩ (.int .i64 z)).heap.size := by simpa [World.setCell] using hbs
          go_wp2_with (first | (at_builtin; refine wpList_append_one rfl _ _ 24 rfl (w.heap.size + 2) 25 iF (.float .f64 0) 1 8 Tryd.underlying24 hiF hzF0 hzF1 hzF2 rfl (by decide) (by decide) u4 mm (S.map (.float .f64)) rfl hown2 [.float .f64 x] rfl (oneF2 _) 25 1 (by rw [hszq] <;> rfl) hkb hbs2 ?_; intro v1 w1 hown1 hbel1) | (go_at_call 28; refine (isnan_no hnan _).mono ?_; rintro e w' ⟨rfl, hww⟩; subst hww) | (go_at_call 36; refine (isinf0_any _ _ hx).mono ?_; rintro e w' ⟨rfl, hww⟩; subst hww))
          clear hown2 hbs2 hszq
          have HO := Lib.hid hown1
          have HB1 := Lib.hid (hbel1 _ _ HB2.out (by omega))
          have HBB := Lib.hid (hbel1 _ _ (Below.refl (w.heap.size + 2) _) (Nat.le_refl _))
          clear hown hown1 hbel1
          go_roundw
          case rel => exact ⟨k + 1, by omega, by go_num, by rw [HE.out.1, List.length_append, List.map_append, ← HM.out, ← HX.out]; exact HO.out, Lib.hid (by rw [HE.out.2.1, HE.out.2.2, ← HZ.out]; exact HG2.out.below HBB.out (by omega)), Lib.hid (HR2.out.below HBB.out (by omega)), HB1.out⟩
          case measure => simp [intOf]; omega
      · have HE := Lib.hid (of_nan hnan)
        have HO := Lib.hid hown
        generalize someL l k = S at *
        generalize nanN l k = na at *
        generalize infN l k = ni at *
        generalize fat l k = x at *
        obtain ⟨z, hz⟩ : ∃ z, z = na + 1 := ⟨_, rfl⟩
        have hz2 : (na : Int) + 1 = (z : Int) := by omega
        have hwz : IntKind.i64.wrap (z : Int) = (z : Int) := IntWalk.i64_in _ (by omega)
        have HZ := Lib.hid hz
        clear hz hown
        have HG2 := Lib.hid (HG.out.s1 (z : Int))
        have HR2 := Lib.hid (HR.out.set (g2 := w.heap.size + 1) (by omega) 1 (.int .i64 z))
        have HB2 := Lib.hid (HB.out.setCell (p := ⟨w.heap.size + 1, 1, none⟩) (Nat.le_succ _) (.int .i64 z))
        go_wp2_with (first | (go_at_call 28; refine (isnan_yes hnan _).mono ?_; rintro e w' ⟨rfl, hww⟩; subst hww))
        go_roundw
        case rel => exact ⟨k + 1, by omega, by go_num, by rw [HE.out.1]; exact own_set HO.out (by omega), Lib.hid (by rw [HE.out.2.1, HE.out.2.2, ← HZ.out]; exact HG2.out), HR2, HB2.out⟩
        case measure => simp [intOf]; omega
    · obtain rfl : k = n := by omega
      clear hbt
      obtain ⟨A5, c5, rfl⟩ := own_form hown
      have HO := Lib.hid hown
      have HSL := Lib.hid (someL_lt HLT.out k)
      obtain ⟨S, hS⟩ : ∃ S, S = someL l k := ⟨_, rfl⟩
      obtain ⟨mm, hmm⟩ : ∃ mm, mm = S.length := ⟨_, rfl⟩
      rw [← hS, ← hmm] at HO
      rw [← hS] at HSL
      obtain ⟨c0, f0⟩ := HG.out.c0
      have hmb : mm ≤ k := by rw [hmm, hS]; exact hbd.1
      have HS := Lib.hid hS
      have HM := Lib.hid hmm
      generalize hna : nanN l k = na at *
      generalize hni : infN l k = ni at *
      have HNA := Lib.hid hna
      have HNI := Lib.hid hni
      rw [← hS, ← hmm]
      clear hown hS hmm hna hni hbd
      have HG1 := Lib.hid (HG.out.s0 (mm : Int))
      have HR1 := Lib.hid (HR.out.set (g2 := w.heap.size + 1) (by omega) 0 (.int .i64 mm))
      have HB1 := Lib.hid (HB.out.setCell (p := ⟨w.heap.size + 1, 0, none⟩) (Nat.le_succ _) (.int .i64 mm))
      have HO1 := Lib.hid (own_set (g := w.heap.size + 1) (j := 0) (u := .int .i64 mm) HO.out (by omega))
      by_cases hm0 : mm = 0
      · subst hm0
        have HV := Lib.hid (show OfV l k ((0 : Nat) : Int) (na : Nat) (ni : Nat) 9221120237041090560 9221120237041090560 9221120237041090560 9221120237041090560 from ⟨by rw [← HS.out, ← HM.out], by rw [HNA.out], by rw [HNI.out], .inl ⟨by rw [← HS.out, ← HM.out], rfl, rfl, rfl, rfl⟩⟩)
        have HFIN := Lib.hid (((((((HR1.out.s0 ((0 : Nat) : Int)).s1 (na : Nat)).s2 (ni : Nat)).s3 9221120237041090560).s4 9221120237041090560).s5 9221120237041090560).s6 9221120237041090560)
        have HBF := Lib.hid (((((((HB1.out.setCell (p := ⟨w.heap.size, 0, none⟩) (Nat.le_refl _) (.int .i64 ((0 : Nat) : Int))).setCell (p := ⟨w.heap.size, 1, none⟩) (Nat.le_refl _) (.int .i64 na)).setCell (p := ⟨w.heap.size, 2, none⟩) (Nat.le_refl _) (.int .i64 ni)).setCell (p := ⟨w.heap.size, 3, none⟩) (Nat.le_refl _) (.float .f64 9221120237041090560)).setCell (p := ⟨w.heap.size, 4, none⟩) (Nat.le_refl _) (.float .f64 9221120237041090560)).setCell (p := ⟨w.heap.size, 5, none⟩) (Nat.le_refl _) (.float .f64 9221120237041090560)).setCell (p := ⟨w.heap.size, 6, none⟩) (Nat.le_refl _) (.float .f64 9221120237041090560))
        obtain ⟨cr0, fr0⟩ := HR.out.c0
        obtain ⟨cg0, fg0⟩ := HG.out.c0
        obtain ⟨cr1, fr1⟩ := HR.out.c1
        obtain ⟨cg1, fg1⟩ := HG.out.c1
        obtain ⟨cr2, fr2⟩ := HR.out.c2
        obtain ⟨cg2, fg2⟩ := HG.out.c2
        obtain ⟨cr3, fr3⟩ := HR.out.c3
        obtain ⟨cg3, fg3⟩ := HG.out.c3
        obtain ⟨cr4, fr4⟩ := HR.out.c4
        obtain ⟨cg4, fg4⟩ := HG.out.c4
        obtain ⟨cr5, fr5⟩ := HR.out.c5
        obtain ⟨cg5, fg5⟩ := HG.out.c5
        obtain ⟨cr6, fr6⟩ := HR.out.c6
        obtain ⟨cg6, fg6⟩ := HG.out.c6
        go_wp2_with (fail)
        refine bodyPost_ret (ret_sum rfl _ _ _ rfl HFIN.out) rfl ?_
        exact ⟨_, _, _, _, _, _, _, rfl, HV.out, HBF.out⟩
      · have hmp : 0 < mm := by omega
        have heq : ((mm : Int) == 0) = false := by rw [beq_eq_false_iff_ne]; omega
        obtain ⟨a5, o5, rfl⟩ : ∃ a5 o5, A5 = some ⟨a5, o5, none⟩ := by
          obtain ⟨a5, o5, e, _⟩ := (FRow.of_own HO.out).2 hmp
          exact ⟨a5, o5, e⟩
        have SO := Lib.hid (sorted2_any a5 o5 mm c5 S _ (FRow.of_own HO1.out) (by omega))
        have QU := Lib.hid (fun w' (h : w'.ownsRow (w.heap.size + 2) 25 1 (.slice (some ⟨a5, o5, none⟩) mm c5) mm (S.map (.float .f64))) => squant_any (some ⟨a5, o5, none⟩) mm c5 S 500 w' (FRow.of_own h) (by omega) (by omega) (by omega))
        have ME := Lib.hid (fun w' (h : w'.ownsRow (w.heap.size + 2) 25 1 (.slice (some ⟨a5, o5, none⟩) mm c5) mm (S.map (.float .f64))) => smean_any (some ⟨a5, o5, none⟩) mm c5 _ S w' (FRow.of_own h) (by omega) HSL.out)
        go_wp2_with (fail)
        refine SO.out.mono ?_
        rintro e w1 ⟨b6, c6, r, rfl, hb6, hs, hF, hb1⟩
        have hgl := HG1.out.lt
        have hne : ¬ b6 = w.heap.size + 1 := by omega
        clear hb6
        have HG2 := Lib.hid (HG1.out.below hb1 hgl)
        have HR2 := Lib.hid (HR1.out.below hb1 HR1.out.lt)
        have HO2 := Lib.hid (own_below HO1.out hb1)
        have HB2 := Lib.hid (HB1.out.trans (hb1.mono HB1.out.size))
        have HSO := Lib.hid hs
        obtain ⟨_, _, e6, _, hc6⟩ := hF.2 hmp
        simp only [Option.some.injEq, Addr.mk.injEq, and_true] at e6
        obtain ⟨rfl, rfl⟩ := e6
        have d0 := hc6 0 hmp
        obtain ⟨p, hp⟩ : ∃ p, p = mm - 1 := ⟨_, rfl⟩
        have hp2 : (mm : Int) - 1 = (p : Int) := by omega
        have hwp : IntKind.i64.wrap (p : Int) = (p : Int) := IntWalk.i64_in _ (by omega)
        have hpm : p < mm := by omega
        have dp := hc6 p hpm
        simp only [Nat.add_zero, Nat.zero_add] at d0 dp
        have HP := Lib.hid hp
        obtain ⟨e0, g0⟩ := HG2.out.c0
        obtain ⟨e3, g3⟩ := HG2.out.c3
        obtain ⟨e5, g5⟩ := HG2.out.c5
        clear hs hF hb1 hc6 hp hgl SO c0 f0
        obtain ⟨r0, hr0⟩ : ∃ x, x = fat r 0 := ⟨_, rfl⟩
        obtain ⟨rp, hrp⟩ : ∃ x, x = fat r p := ⟨_, rfl⟩
        rw [← hr0] at d0
        rw [← hrp] at dp
        have HR0 := Lib.hid hr0
        have HRP := Lib.hid hrp
        clear hr0 hrp
        have HG3 := Lib.hid (((HG2.out.drewN 1).s3 r0).s5 rp)
        have HR3 := Lib.hid (((HR2.out.drewN 1).set (g2 := w.heap.size + 1) (by omega) 3 (.float .f64 r0)).set (g2 := w.heap.size + 1) (by omega) 5 (.float .f64 rp))
        have HO3 := Lib.hid (own_set (g := w.heap.size + 1) (j := 5) (u := .float .f64 rp) (own_set (g := w.heap.size + 1) (j := 3) (u := .float .f64 r0) (own_drewN HO2.out 1) (by omega)) (by omega))
        have HB3 := Lib.hid (((below_drewN HB2.out 1).setCell (p := ⟨w.heap.size + 1, 3, none⟩) (Nat.le_succ _) (.float .f64 r0)).setCell (p := ⟨w.heap.size + 1, 5, none⟩) (Nat.le_succ _) (.float .f64 rp))
        go_wp2_with (fail)
        go_region
        go_wp2_with (fail)
        refine (QU.out _ HO3.out).mono ?_
        rintro e w2 ⟨mi, er, rfl, hq, hb2⟩
        have HQ := Lib.hid hq
        have HG4 := Lib.hid (HG3.out.below hb2 HG3.out.lt)
        have HR4 := Lib.hid (HR3.out.below hb2 HR3.out.lt)
        have HO4 := Lib.hid (own_below HO3.out hb2)
        have HB4 := Lib.hid (HB3.out.trans (hb2.mono HB3.out.size))
        clear e0 g0 e3 g3 e5 g5 d0 dp hq hb2
        have HO5 := Lib.hid (own_set (g := w.heap.size + 1) (j := 4) (u := .float .f64 mi) HO4.out (by omega))
        obtain ⟨cr0, fr0⟩ := HR4.out.c0
        obtain ⟨cg0, fg0⟩ := HG4.out.c0
        obtain ⟨cr1, fr1⟩ := HR4.out.c1
        obtain ⟨cg1, fg1⟩ := HG4.out.c1
        obtain ⟨cr2, fr2⟩ := HR4.out.c2
        obtain ⟨cg2, fg2⟩ := HG4.out.c2
        obtain ⟨cr3, fr3⟩ := HR4.out.c3
        obtain ⟨cg3, fg3⟩ := HG4.out.c3
        obtain ⟨cr4, fr4⟩ := HR4.out.c4
        obtain ⟨cg4, fg4⟩ := HG4.out.c4
        obtain ⟨cr5, fr5⟩ := HR4.out.c5
        obtain ⟨cg5, fg5⟩ := HG4.out.c5
        obtain ⟨cr6, fr6⟩ := HR4.out.c6
        obtain ⟨cg6, fg6⟩ := HG4.out.c6
        obtain ⟨me, hme⟩ : ∃ x, x = meanW S mm := ⟨_, rfl⟩
        rw [← hme] at ME
        have HME := Lib.hid hme
        clear hme
        go_wp2_with (fail)
        refine (ME.out _ HO5.out).mono ?_
        rintro e w3 ⟨rfl, q3, rfl⟩
        have HV := Lib.hid (show OfV l k (mm : Nat) (na : Nat) (ni : Nat) r0 mi rp me from ⟨by rw [← HS.out, ← HM.out], by rw [HNA.out], by rw [HNI.out], .inr (by
          rw [← HS.out, ← HM.out, ← HP.out]
          exact ⟨hmp, r, er, HSO.out, HR0.out, HRP.out, HQ.out, HME.out⟩)⟩)
        have HR6 := Lib.hid (((HR4.out.set (g2 := w.heap.size + 1) (by omega) 4 (.float .f64 mi)).drewN q3).set (g2 := w.heap.size + 1) (by omega) 6 (.float .f64 me))
        have HFIN := Lib.hid (((((((HR6.out.s0 (mm : Nat)).s1 (na : Nat)).s2 (ni : Nat)).s3 r0).s4 mi).s5 rp).s6 me)
        have HB6 := Lib.hid ((below_drewN (HB4.out.setCell (p := ⟨w.heap.size + 1, 4, none⟩) (Nat.le_succ _) (.float .f64 mi)) q3).setCell (p := ⟨w.heap.size + 1, 6, none⟩) (Nat.le_succ _) (.float .f64 me))
        have HBF := Lib.hid (((((((HB6.out.setCell (p := ⟨w.heap.size, 0, none⟩) (Nat.le_refl _) (.int .i64 mm)).setCell (p := ⟨w.heap.size, 1, none⟩) (Nat.le_refl _) (.int .i64 na)).setCell (p := ⟨w.heap.size, 2, none⟩) (Nat.le_refl _) (.int .i64 ni)).setCell (p := ⟨w.heap.size, 3, none⟩) (Nat.le_refl _) (.float .f64 r0)).setCell (p := ⟨w.heap.size, 4, none⟩) (Nat.le_refl _) (.float .f64 mi)).setCell (p := ⟨w.heap.size, 5, none⟩) (Nat.le_refl _) (.float .f64 rp)).setCell (p := ⟨w.heap.size, 6, none⟩) (Nat.le_refl _) (.float .f64 me))
        go_wp2_with (fail)
        refine bodyPost_ret (ret_sum rfl _ _ _ rfl HFIN.out) rfl ?_
        exact ⟨_, _, _, _, _, _, _, rfl, HV.out, HBF.out⟩

end Go.Proofs.YtjcgachdnkdamaaDoor
