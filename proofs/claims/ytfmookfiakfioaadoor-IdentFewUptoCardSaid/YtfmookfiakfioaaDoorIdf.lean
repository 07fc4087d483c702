/- The walk of the law on routers that come. Conditions: as Idl's; at most 1048576 numbers in each list. -/
import Derived.Test.YtfmookfiakfioaaDoorIdj
namespace Go.Proofs.YtfmookfiakfioaaDoor
open Go.RowKit Go.Mem Idn Go.Proofs.YtfmookfiakfioaaDoorW.PrintWords Go.Lib Go.Shelf
open Go.Sort hiding Below
set_option linter.unusedVariables false

namespace Idn
theorem drawE_zero {l : List Int} {s : ByteArray} (h : drawE l s = 0) : orderE l s = 0 ∧ l ≠ [] := by
  unfold drawE at h
  split at h
  · rename_i h2
    split at h
    · cases h
    · rename_i h3; exact ⟨h2, h3⟩
  · rename_i h2; exact absurd h h2
theorem few {l o : List Int} {s : ByteArray} (h1 : drawE l s = 0) (h2 : drawE (l ++ o) s = 0) : drawW l s = drawW (l ++ o) s ∨ drawW (l ++ o) s ∈ o := by
  obtain ⟨a1, a2⟩ := drawE_zero h1
  obtain ⟨b1, b2⟩ := drawE_zero h2
  rw [(drawW_of a1 a2).1, (drawW_of b1 b2).1]
  have ma := drawI_min (z := sumI s) a2
  have mb := drawI_min (z := sumI s) b2
  generalize drawI (sumI s) (l ++ o) = b at *
  rcases List.mem_append.1 mb.1 with h | h
  · exact .inl (isMin_unique ma ⟨h, fun y hy => mb.2 y (List.mem_append_left _ hy)⟩)
  · exact .inr h
end Idn
theorem irow_row {w : World} {B : Nat} {A : Option Addr} {n : Nat} {f : Nat → Int} (h : IRow .i64 w B A n f) : Row w B 1 A n (IL f n) := by
  refine ⟨by simp [IL], fun hn => ?_⟩
  obtain ⟨b, off, e, hb, hc⟩ := h hn
  refine ⟨b, off, e, hb, fun j u hu => ?_⟩
  unfold IL at hu
  rcases Nat.lt_or_ge j n with hj | hj
  · rw [range_get (fun i => Value.int .i64 (f i)) hj] at hu
    rw [hc j hj]; exact hu
  · rw [List.getElem?_eq_none (by simpa using hj)] at hu; cases hu
theorem IL_one (f : Nat → Int) (n : Nat) : ∀ u ∈ IL f n, u.oneCell' = true := by intro u hu; obtain ⟨i, _, rfl⟩ := List.mem_map.1 hu; rfl
theorem own_kdL {w : World} {base : Nat} {e : TypeId} {A : Option Addr} {n c : Nat} {l : List Int} (h : w.ownsRow base e 1 (.slice A n c) n (l.map (Value.int .i64))) (hn : n ≤ 9223372036854775807) : (Kd.int .i64).C w A l.length l ∧ n ≤ c ∧ l.length = n := by
  have hr := Row.of_own h
  have hl : l.length = n := by have := hr.1; simpa using this
  refine ⟨?_, ?_, hl⟩
  · refine Kd.C_of_reads (enc := Value.int .i64) (d := 0) ⟨rfl, by omega, fun hp => ?_⟩
    obtain ⟨b, off, rfl, _, hc⟩ := hr.2 (by omega)
    refine ⟨_, rfl, fun j hj => ?_⟩
    have ha : (⟨b, off, none⟩ : Addr).add j = ⟨b, off + j, none⟩ := by unfold Addr.add; by_cases h : j = 0 <;> simp [h]
    rw [ha, hc j (.int .i64 l[j]) (by rw [List.getElem?_map, List.getElem?_eq_getElem hj]; rfl), List.getD_eq_getElem?_getD, List.getElem?_eq_getElem hj]; rfl
  · rcases h.2 with ⟨hv, h0⟩ | ⟨g', cap, cur, hv, _, _, hnc, _⟩
    · omega
    · injection hv with _ _ h3; omega
theorem IL_app (f g : Nat → Int) (n k : Nat) : [] ++ IL f n ++ IL g k = (((List.range n).map f) ++ (List.range k).map g).map (Value.int .i64) := by
  unfold IL; simp [List.map_append, List.map_map, Function.comp_def]
set_option maxRecDepth 100000 in
set_option maxHeartbeats 6400000 in
theorem IdentFew_walk (A : Option Addr) (n c : Nat) (f : Nat → Int) (A' : Option Addr) (k c' : Nat) (g : Nat → Int) (s : ByteArray) (w : World) (hr : IRow .i64 w w.heap.size A n f) (wf : ∀ i, i < n → (Lit.int .i64 (f i)).wf = true) (hn : n ≤ 17592186043904) (hc : n ≤ c)
    (hr' : IRow .i64 w w.heap.size A' k g) (wf' : ∀ i, i < k → (Lit.int .i64 (g i)).wf = true) (hk : k ≤ 17592186043904) (hc' : k ≤ c') (hs : s.size ≤ 140737488351232) (hp : Pow10 w) (hu : n ≤ 1048576) (hu' : k ≤ 1048576) :
    Calls Tryd.prog 5 #[.slice A n c, .slice A' k c', .string s] w fun e w' => e = .returned (.bool true) ∧ Below w.heap.size w w' := by
  have HS := Lib.hid (show s.size ≤ 9223372036854775807 by omega)
  have HP := Lib.hid hp
  have HRf := Lib.hid (irow_row hr)
  have HRg := Lib.hid (irow_row hr')
  obtain ⟨l1, hl1⟩ : ∃ l, l = (List.range n).map f := ⟨_, rfl⟩
  obtain ⟨l3, hl3⟩ : ∃ l, l = (List.range k).map g := ⟨_, rfl⟩
  have hn1 : l1.length = n := by rw [hl1]; simp
  have hn3 : l3.length = k := by rw [hl3]; simp
  have C1 : (Kd.int .i64).C w A n l1 := by have := irow_kd hr (by omega); rw [← hl1, hn1] at this; exact this
  have C3 : (Kd.int .i64).C w A' k l3 := by have := irow_kd hr' (by omega); rw [← hl3, hn3] at this; exact this
  have COP := fun (w' : World) (hb : Below w.heap.size w w') => copiedB A c l1 (by omega) (by omega) w' (by rw [hn1]; exact Kd.C_below C1 hb)
  have RD := fun (w' : World) (hb : Below w.heap.size w w') => rdrawB A c l1 s HS.out (by omega) (by omega) w' (by rw [hn1]; exact Kd.C_below C1 hb)
  have IN := fun (x : Int) (w' : World) (hb : Below w.heap.size w w') => inB A' c' l3 x (by omega) (by omega) w' (by rw [hn3]; exact Kd.C_below C3 hb)
  unfold CopPost at COP
  rw [hn1] at COP RD
  rw [hn3] at IN
  have COP2 := Lib.hid COP
  have RD2 := Lib.hid RD
  have IN2 := Lib.hid IN
  have hap := Lib.hid (IL_app f g n k)
  rw [← hl1, ← hl3] at hap
  have hl2 : (l1 ++ l3).length = n + k := by rw [List.length_append]; omega
  have HL2 := Lib.hid hl2
  have HFW : Hid (drawE l1 s = 0 → drawE (l1 ++ l3) s = 0 → drawW l1 s = drawW (l1 ++ l3) s ∨ drawW (l1 ++ l3) s ∈ l3) := Lib.hid (fun a b => few a b)
  obtain ⟨iI, hiI, hzI0, hzI1, hzI2⟩ := info_parts infoI
  have h63a : 0 + n ≤ maxLen := by unfold maxLen; omega
  have hba : (0 + n) * 8 ≤ 140737488355328 := by omega
  have h63b : 0 + n + k ≤ maxLen := by unfold maxLen; omega
  have hbb : (0 + n + k) * 8 ≤ 140737488355328 := by omega
  have HN1 := Lib.hid hn1
  clear hp hr hr' wf wf' C1 C3 COP RD IN hl1 hl3 hl2 hn1 hn3
  go_enter Tryd.func5, Tryd.ntmps5
  go_wp2_with (first | (at_builtin; refine wpList_append_row _ rfl (.tmp 16) (.tmp 17) _ rfl w.heap.size 3 iI (.int .i64 0) 1 8 Tryd.underlying27 hiI hzI0 hzI1 hzI2 rfl (by decide) (.slice none 0 0) 0 [] rfl ⟨rfl, .inl ⟨rfl, rfl⟩⟩ w.heap.size A n c (IL f n) rfl HRf.out (IL_one f n) h63a hba (Nat.le_refl _) ?_; intro v1 w1 hown1 hg1; have hbw1 : Below w.heap.size w w1 := (Below.refl _ _).grown hg1 (Nat.le_refl _) (by simp [Value.ownBlock])) | (at_builtin; refine wpList_append_row _ rfl (.tmp 19) (.tmp 20) _ rfl w.heap.size 3 iI (.int .i64 0) 1 8 Tryd.underlying27 hiI hzI0 hzI1 hzI2 rfl (by decide) v1 (0 + n) ([] ++ IL f n) rfl hown1 w.heap.size A' k c' (IL g k) rfl (HRg.out.below hbw1) (IL_one g k) h63b hbb hbw1.size ?_; intro v2 w2 hown2 hg2))
  have hbw2 : Below w.heap.size w w2 := hbw1.grown hg2 hbw1.size (Mem.own_base hown1)
  rw [hap.out] at hown2
  obtain ⟨A2, c2, rfl⟩ := own_form hown2
  obtain ⟨hC2, hc2, _⟩ := own_kdL hown2 (by omega)
  have COPB := fun (w' : World) (hb : Below w2.heap.size w2 w') => copiedB A2 c2 (l1 ++ l3) (by rw [HL2.out]; omega) (by rw [HL2.out]; omega) w' (Kd.C_below hC2 hb)
  have RDB := fun (w' : World) (hb : Below w2.heap.size w2 w') => rdrawB A2 c2 (l1 ++ l3) s HS.out (by rw [HL2.out]; omega) (by rw [HL2.out]; omega) w' (Kd.C_below hC2 hb)
  unfold CopPost at COPB
  rw [HL2.out] at COPB RDB
  have COPB2 := Lib.hid COPB
  have RDB2 := Lib.hid RDB
  have HB2 := Lib.hid hbw2
  have e0 : 0 + n + k = n + k := by omega
  rw [e0] at *
  clear hown1 hown2 hg1 hg2 hbw1 hbw2 hC2 COPB RDB hap h63a hba h63b hbb hiI hzI0 hzI1 hzI2 e0
  have DR1 := fun A' c' w' h1' h2' => draw_any A' n c' l1 s w' h1' h2' (by omega) HS.out
  have DR3 := fun A' c' w' h1' h2' => draw_any A' (n + k) c' (l1 ++ l3) s w' h1' h2' (by omega) HS.out
  have DRA := Lib.hid DR1
  have DRB := Lib.hid DR3
  clear DR1 DR3
  generalize drawW l1 s = a at *
  generalize drawE l1 s = ea at *
  generalize drawW (l1 ++ l3) s = b at *
  generalize drawE (l1 ++ l3) s = eb at *
  go_wp2_with (fail)
  refine (COP2.out _ HB2.out).mono ?_
  rintro e w3 ⟨A3, c3, rfl, hc3, hC3, hb3, hA3⟩
  have HD3 := Lib.hid (DRA.out A3 c3 w3 hC3 hA3)
  have H23 := Lib.hid hb3
  clear hb3 hC3 hA3
  go_wp2_with (fail)
  refine HD3.out.mono ?_
  rintro e w4 ⟨rfl, hb4⟩
  have H24 := Lib.hid (H23.out.trans (hb4.mono H23.out.size))
  clear hb4
  go_wp2_with (fail)
  refine (COPB2.out _ H24.out).mono ?_
  rintro e w5 ⟨A5, c5, rfl, hc5, hC5, hb5, hA5⟩
  have HD5 := Lib.hid (DRB.out A5 c5 w5 hC5 hA5)
  have H25 := Lib.hid (H24.out.trans (hb5.mono H24.out.size))
  clear hb5 hC5 hA5
  go_wp2_with (fail)
  refine HD5.out.mono ?_
  rintro e w6 ⟨rfl, hb6⟩
  have H26 := Lib.hid (H25.out.trans (hb6.mono H25.out.size))
  have H6 := Lib.hid (HB2.out.trans (H26.out.mono HB2.out.size))
  clear hb6
  have hw : (ea = 0 ∧ eb = 0) ∨ ¬ (ea = 0 ∧ eb = 0) := Classical.em _
  rcases hw with ⟨h1, h2⟩ | h
  · have hf := HFW.out h1 h2
    have hea : (ea != 0) = false := by rw [h1]; rfl
    have heb : (eb != 0) = false := by rw [h2]; rfl
    clear HFW h1 h2
    by_cases hab : a = b
    · have hab2 : (a == b) = true := by rw [beq_iff_eq]; exact hab
      clear hf hab
      have hin : decide (b ∈ l3) = true ∨ decide (b ∈ l3) = false := by cases decide (b ∈ l3) <;> simp
      have IN3 := Lib.hid (IN2.out b w6 H6.out)
      generalize decide (b ∈ l3) = q at *
      rcases hin with rfl | rfl
      all_goals
        go_wp2_with (fail)
        refine IN3.out.mono ?_
        rintro e w7 ⟨rfl, hb7⟩
        have H7 := Lib.hid (H6.out.trans (hb7.mono H6.out.size))
        clear hb7
        go_wp2_with (fail)
        refine (awake_any _ (HP.out.below H7.out)).mono ?_
        rintro e w8 ⟨rfl, hb8⟩
        go_wp2
        go_ret
        exact ⟨rfl, H7.out.trans (hb8.mono H7.out.size)⟩
    · have hab2 : (a == b) = false := by rw [beq_eq_false_iff_ne]; exact hab
      have hin : decide (b ∈ l3) = true := decide_eq_true (hf.resolve_left hab)
      have IN3 := fun w' hb => IN2.out b w' hb
      rw [hin] at IN3
      have IN4 := Lib.hid IN3
      clear hf hab hin IN3
      go_wp2_with (fail)
      refine (IN4.out _ H6.out).mono ?_
      rintro e w7 ⟨rfl, hb7⟩
      have H7 := Lib.hid (H6.out.trans (hb7.mono H6.out.size))
      clear hb7
      go_wp2_with (fail)
      refine (IN4.out _ H7.out).mono ?_
      rintro e w8 ⟨rfl, hb8⟩
      have H8 := Lib.hid (H7.out.trans (hb8.mono H7.out.size))
      clear hb8
      go_wp2_with (fail)
      refine (awake_any _ (HP.out.below H8.out)).mono ?_
      rintro e w9 ⟨rfl, hb9⟩
      go_wp2
      go_ret
      exact ⟨rfl, H8.out.trans (hb9.mono H8.out.size)⟩
  · clear HFW
    have hea : (ea != 0) = true ∨ ((ea != 0) = false ∧ (eb != 0) = true) := by
      by_cases h1 : ea = 0
      · refine .inr ⟨by rw [h1]; rfl, ?_⟩
        rw [bne_iff_ne]; exact fun h2 => h ⟨h1, h2⟩
      · exact .inl (by rw [bne_iff_ne]; exact h1)
    clear h
    rcases hea with hea | ⟨hea, heb⟩
    all_goals
      go_wp2_with (fail)
      refine (RD2.out _ H6.out).mono ?_
      rintro e w7 ⟨rfl, hb7⟩
      have H7 := Lib.hid (H6.out.trans (hb7.mono H6.out.size))
      have H27 := Lib.hid (H26.out.trans (hb7.mono H26.out.size))
      clear hb7
      go_wp2_with (fail)
      refine (RDB2.out _ H27.out).mono ?_
      rintro e w8 ⟨rfl, hb8⟩
      have H8 := Lib.hid (H7.out.trans (hb8.mono H7.out.size))
      clear hb8
      go_wp2_with (fail)
      refine (awake_any _ (HP.out.below H8.out)).mono ?_
      rintro e w9 ⟨rfl, hb9⟩
      go_wp2
      go_ret
      exact ⟨rfl, H8.out.trans (hb9.mono H8.out.size)⟩
theorem bulk_pos {H : Type} (d : DataW H) : 1 ≤ Rows.uptoBulk d := by cases d <;> first | (simp only [Rows.uptoBulk]; omega) | (rename_i x; cases x <;> simp only [Rows.uptoBulk] <;> omega)
theorem bulk_len {H : Type} : ∀ l : List (DataW H), l.length ≤ Rows.uptoBulkAll l
  | [] => by simp
  | d :: r => by have := bulk_pos d; have := bulk_len r; simp only [Rows.uptoBulkAll, List.length_cons]; omega
theorem upto_len {H : Type} {d : DataW H} {len cap M : Nat} (h : (d = .nil ∧ len = 0 ∧ cap = 0) ∨ ∃ el sp, d = .slice el sp ∧ el.length + sp.length = cap) (hl : len ≤ cap) (hb : Rows.uptoBulk d ≤ M) : len ≤ M := by
  rcases h with ⟨_, h0, _⟩ | ⟨el, sp, rfl, hc⟩
  · omega
  · have h1 := bulk_len el
    have h2 := bulk_len sp
    simp only [Rows.uptoBulk] at hb
    omega

end Go.Proofs.YtfmookfiakfioaaDoor
